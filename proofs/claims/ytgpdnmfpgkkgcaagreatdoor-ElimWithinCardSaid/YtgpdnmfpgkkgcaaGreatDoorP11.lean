/- Part of a proof that a law of the program holds for every input: what the functions answer, in plain Lean. No conditions. -/
import Derived.Lib.ItoaLen
import Derived.Test.YtgpdnmfpgkkgcaaGreatDoorK10
namespace Go.Proofs.YtgpdnmfpgkkgcaaGreatDoor
open Go
set_option linter.unusedVariables false
theorem Lp.iter{σ:Type}{body:σ→(σ→Prop)→Prop}(n:Nat)(I:Nat→σ→Prop){x:σ}(hx:I 0 x)(h:∀ i y,i≤n→I i y→∀ R:σ→Prop,(i < n→∀ y',I (i+1) y'→R y')→body y R):Lp body x:=by
 intro R hR
 have key:∀ k i y,i+k=n→I i y→R y:=by
  intro k
  induction k with
  | zero=>exact fun i y e hi=>hR _ (h i y (by omega) hi R fun hlt=>by omega)
  | succ k ih=>exact fun i y e hi=>hR _ (h i y (by omega) hi R fun _ y' hy'=>ih (i+1) y' (by omega) hy')
 exact key n 0 x (by omega) hx
theorem ZN{α:Type}{l:List α}{d:α}{i:Nat}(h:i < l.length):l.getD i d=l[i]:=by
 rw[List.getD_eq_getElem?_getD,List.getElem?_eq_getElem h];rfl
theorem Zr9{α:Type}{l:List α}{d:α}{p:α→Bool}{i:Nat}(hi:i < l.length)(h:p (l.getD i d)=false):l.all p=false:=by
 rw[List.getD_eq_getElem?_getD,List.getElem?_eq_getElem hi] at h
 rw[List.all_eq_false]
 exact⟨l[i],List.getElem_mem hi,by simpa using h⟩
theorem ZtX{α:Type}{l:List α}{d:α}{p:α→Bool}(h:∀ j,j < l.length→p (l.getD j d)=true):l.all p=true:=by
 rw[List.all_eq_true]
 intro x hx
 obtain⟨i,hi,rfl⟩:=List.mem_iff_getElem.1 hx
 have:=h i hi
 rwa [List.getD_eq_getElem?_getD,List.getElem?_eq_getElem hi] at this
theorem Lp.all {α : Type} {body : Int → (Int → Prop) → Prop} (l : List α) (d : α) (p : α → Bool) (hl : l.length ≤ 9223372036854775807)
 (h:∀ (i:Nat) (R:Int→Prop),i < l.length→(i:Int) < (l.length:Int)→Zm .i64 ((i:Int)+1)→(p (l.getD i d)=true→R ((i:Int)+1))→(p (l.getD i d)=false→l.all p=false)→body (i:Int) R)
 (h2:∀ R:Int→Prop,l.all p=true→body (l.length:Int) R):Lp body 0:=by
 refine Lp.iter l.length (fun i y=>y=(i:Int)∧∀ j,j < i→p (l.getD j d)=true) ⟨rfl,fun j hj=>absurd hj (by omega)⟩ ?_
 rintro i y hle ⟨rfl,hi⟩ R hR
 by_cases e:i < l.length
 ·refine h i R e (by omega) ⟨by omega,by omega⟩ (fun hp=>hR e _ ⟨by omega,fun j hj=>?_⟩) (fun hp=>Zr9 e hp)
  by_cases ej:j=i
  ·subst ej;exact hp
  ·exact hi j (by omega)
 ·have:i=l.length:=by omega
  subst this
  exact h2 R (ZtX hi)
theorem Lp.foldl {α τ : Type} {body : Int × τ → (Int × τ → Prop) → Prop} (l : List α) (d : α) (f : τ → α → τ) (a : τ) (hl : l.length ≤ 9223372036854775807)
 (h:∀ (i:Nat) (t:τ) (R:Int×τ→Prop),i < l.length→(i:Int) < (l.length:Int)→Zm .i64 ((i:Int)+1)→t=(l.take i).foldl f a→R ((i:Int)+1,f t (l.getD i d))→body ((i:Int),t) R)
 (h2:∀ R:Int×τ→Prop,body ((l.length:Int),l.foldl f a) R):Lp body (0,a):=by
 refine Lp.iter l.length (fun i y=>y=((i:Int),(l.take i).foldl f a)) rfl ?_
 rintro i y hle rfl R hR
 by_cases e:i < l.length
 ·refine h i _ R e (by omega) ⟨by omega,by omega⟩ rfl ?_
  refine hR e _ ?_
  have:l.take (i+1)=l.take i++[l.getD i d]:=by
   rw[List.getD_eq_getElem?_getD,List.getElem?_eq_getElem e];simp
  rw[this,List.foldl_append]
  rfl
 ·have:i=l.length:=by omega
  subst this
  rw[List.take_length]
  exact h2 R
theorem Zi{α:Type}{l:List α}{d:α}{i:Nat}(h:i < l.length):l.getD i d∈l:=by
 rw[ZN h];exact List.getElem_mem h
theorem Lp.foldO {α τ : Type} {body : Int × τ → (Int × τ → Prop) → Prop} (l : List α) (d : α) (f : τ → α → Option τ) (a : τ) (hl : l.length ≤ 9223372036854775807)
 (h:∀ (i:Nat) (t:τ) (R:Int×τ→Prop),i < l.length→(i:Int) < (l.length:Int)→Zm .i64 ((i:Int)+1)→(l.take i).foldlM f a=some t→(∀ t',f t (l.getD i d)=some t'→R ((i:Int)+1,t'))→(f t (l.getD i d)=none→l.foldlM f a=none)→body ((i:Int),t) R)
 (h2:∀ (t:τ) (R:Int×τ→Prop),l.foldlM f a=some t→body ((l.length:Int),t) R):Lp body (0,a):=by
 refine Lp.iter l.length (fun i y=>∃ t,y=((i:Int),t)∧(l.take i).foldlM f a=some t) ⟨a,rfl,rfl⟩ ?_
 rintro i y hle ⟨t,rfl,ht⟩ R hR
 by_cases e:i < l.length
 ·have hs:l.take (i+1)=l.take i++[l.getD i d]:=by
   rw[List.getD_eq_getElem?_getD,List.getElem?_eq_getElem e];simp
  refine h i t R e (by omega) ⟨by omega,by omega⟩ ht (fun t' ht'=>hR e _ ⟨t',rfl,?_⟩) (fun hn=>?_)
  ·rw[hs,List.foldlM_append,ht]
   show (f t (l.getD i d)).bind _=_
   rw[ht'];rfl
  ·have h3:l=l.take i++(l.getD i d::l.drop (i+1)):=by
    rw[List.getD_eq_getElem?_getD,List.getElem?_eq_getElem e]
    simp
   rw[h3,List.foldlM_append,ht]
   simp only[Option.bind_eq_bind,Option.bind_some,List.foldlM_cons]
   have e4:(l.take i++l.getD i d::l.drop (i+1)).getD i d=l.getD i d:=by rw[← h3]
   rw[hn];rfl
 ·have:i=l.length:=by omega
  subst this
  rw[List.take_length] at ht
  exact h2 t R ht
theorem Lp.fill {α β : Type} {body : Int × List β → (Int × List β → Prop) → Prop} (l : List α) (d : α) (z : β) (f : α → β) (hl : l.length ≤ 9223372036854775807)
 (h:∀ (i:Nat) (out:List β) (R:Int×List β→Prop),i < l.length→(i:Int) < (l.length:Int)→Zm .i64 ((i:Int)+1)→out.length=l.length→R ((i:Int)+1,out.set i (f (l.getD i d)))→body ((i:Int),out) R)
 (h2:∀ R:Int×List β→Prop,body ((l.length:Int),l.map f) R):Lp body (0,List.replicate l.length z):=by
 refine Lp.iter l.length (fun i y=>y=((i:Int),(l.take i).map f++List.replicate (l.length - i) z)) (by simp) ?_
 rintro i y hle rfl R hR
 by_cases e:i < l.length
 ·refine h i _ R e (by omega) ⟨by omega,by omega⟩ (by simp;omega) (hR e _ ?_)
  congr 1
  have h1:l.length - i=(l.length - (i+1))+1:=by omega
  rw[h1,List.replicate_succ,List.set_append_right _ _ (by simp;omega)]
  have h3:i - ((l.take i).map f).length=0:=by simp;omega
  rw[h3,List.set_cons_zero,ZN e]
  have h4:l.take (i+1)=l.take i++[l[i]]:=by simp
  rw[h4,List.map_append,List.append_assoc]
  rfl
 ·have:i=l.length:=by omega
  subst this
  simp only[List.take_length,Nat.sub_self,List.replicate_zero,List.append_nil]
  exact h2 R
abbrev Lin:=List Int×Int
abbrev Zc:=Int×Int×List Int×Int
abbrev ZbZ:=Int×List (List Zc)
abbrev Za:Zc:=(0,0,[],0)
def Fit(n:Int):Bool:=decide (-1048576≤n)&&decide (n≤1048576)
def Z4(l:Lin):Bool:=l.1.all Fit&&(decide ((l.1.length:Int)≤12)&&Fit l.2)
def Zd(c:Zc):Bool:=if c.1=0∨c.1=1 then c.2.1 == 0&&Z4 c.2.2 else if c.1=2 then (decide (1≤c.2.1)&&decide (c.2.1≤512))&&Z4 c.2.2 else false
def Zmc(p:List Zc)(n:Int):Bool:=p.all fun c=>Zd c&&((c.2.2.1.length:Int) == n)
def Zr(s:ZbZ):Bool:=decide (0≤s.1)&&decide (s.1≤12)&&decide ((s.2.length:Int)≤400)&&s.2.all fun p=>decide ((p.length:Int)≤96)&&Zmc p s.1
abbrev ZbV.fn(x:Int×Unit):Bool:=Fit x.1
abbrev Zbk.fn(x:Lin×Unit):Bool:=Z4 x.1
abbrev ZE.fn(x:Zc×Unit):Bool:=Zd x.1
abbrev Zb2.fn(x:List Zc×Int×Unit):Bool:=Zmc x.1 x.2.1
abbrev Zao.fn(x:ZbZ×Unit):Bool:=Zr x.1
abbrev Zbg.fn(x:Int×Unit):Bool:=Fit x.1
abbrev ZaZ.fn(x:Lin×Unit):Bool:=Z4 x.1
abbrev Zaq.fn(x:Zc×Unit):Bool:=Zd x.1
abbrev ZJ.fn(x:ZbZ×Unit):Bool:=Zr x.1
def Zd7(a b:ZbZ):Int:=if Zr a&&Zr b then if a.1=b.1 then 0 else 2 else 1
abbrev ZbG.fn(x:ZbZ×ZbZ×Unit):Int:=Zd7 x.1 x.2.1
abbrev Zbp.fn(x:ZbZ×ZbZ×Unit):Int:=Zd7 x.1 x.2.1
abbrev Zbn.fn(x:Lin×Lin×Unit):Bool:=decide (x.1=x.2.1)
abbrev Za3.fn(x:Zc×Zc×Unit):Bool:=decide (x.1=x.2.1)
abbrev ZS.fn(x:List Zc×List Zc×Unit):Bool:=decide (x.1=x.2.1)
abbrev Za4.fn(x:ZbZ×ZbZ×Unit):Bool:=decide (x.1=x.2.1)
def Zbi(l:List Int):Nat:=l.foldl (fun g n=>Nat.gcd g n.natAbs) 0
abbrev Zbw.fn(x:Int×Unit):Int:=if x.1 < 0 then IntKind.wrap .u64 (-IntKind.wrap .u64 x.1) else IntKind.wrap .u64 x.1
abbrev Zal.fn(x:Int×Int×Unit):Int:=if x.2.1≤0 then x.1 else if x.1 < 0 then x.2.1 else (Nat.gcd x.1.toNat x.2.1.toNat:Nat)
abbrev ZaS.fn(x:Int×Int×Unit):Int:=Zal.fn (x.1,Zbw.fn (x.2.1,()),())
abbrev ZG.fn(x:List Int×Int×((Int×Int→Prop)×(Int×Int→Int))×Unit):Int:=x.1.foldl (fun g n=>x.2.2.1.2 (g,n)) x.2.1
abbrev ZG.pre(x:List Int×Int×((Int×Int→Prop)×(Int×Int→Int))×Unit):Prop:=∀ g,∀ n∈x.1,x.2.2.1.1 (g,n)
def Zdd(l:List Int):Prop:=∀ n∈l,-9223372036854775807≤n∧n≤9223372036854775807
abbrev Zbt.fn(x:List Int×Unit):Int×Int:=((Zbi x.1:Nat),0)
abbrev Zbt.pre(x:List Int×Unit):Prop:=Zdd x.1
abbrev Zbf.fn(x:List Int×Unit):Int×Int:=Zbt.fn x
abbrev Zbf.pre(x:List Int×Unit):Prop:=Zdd x.1
abbrev ZaH.fn(x:Int×Int×Unit):Int×Int:=if x.2.1 < 1 then (0,1) else (x.1 / x.2.1,0)
abbrev ZaH.pre(x:Int×Int×Unit):Prop:=-9223372036854775807≤x.1∧x.1≤9223372036854775807
abbrev Zbq.fn(x:Int×Int×Unit):Int×Int:=if x.2.1 < 1 then (0,1) else (x.1 % x.2.1,0)
abbrev Zbq.pre(x:Int×Int×Unit):Prop:=x.2.1≤9223372036854775807
abbrev ZaA.fn(x:Int×Int×Unit):Int×Int:=ZaH.fn x
abbrev ZaA.pre(x:Int×Int×Unit):Prop:=ZaH.pre x
abbrev ZaQ.fn(x:Int×Int×Unit):Int×Int:=Zbq.fn x
abbrev ZaQ.pre(x:Int×Int×Unit):Prop:=Zbq.pre x
abbrev Zbu.fn(x:Int×Unit):Int:=Zbw.fn x
set_option maxRecDepth 4000
def ZbV.wp(x0:Int)(Q:Bool→Prop):Prop:=((decide ((-(1048576:Int))≤x0)=true→(decide ((-(1048576:Int))≤x0)=true∧True))∧((decide ((-(1048576:Int))≤x0)=true→decide ((-(1048576:Int))≤x0)=true)∧Q (decide ((-(1048576:Int))≤x0)&&decide (x0≤(1048576:Int)))))
def Zbk.wp(x0:Lin)(Q:Bool→Prop):Prop:=Lp (σ:=Int) (fun y2 R2=>cond (decide (y2 < ((List.length x0.1:Nat):Int))) (((0:Int)≤y2∧y2 < ((List.length x0.1:Nat):Int))∧cond (!(ZbV.fn ((List.getD x0.1 (Int.toNat y2) (0:Int)),()))) (Q false) (Zm IntKind.i64 (y2+(1:Int))∧R2 (y2+(1:Int)))) ((decide (((List.length x0.1:Nat):Int)≤(12:Int))=true→(decide (((List.length x0.1:Nat):Int)≤(12:Int))=true∧True))∧((decide (((List.length x0.1:Nat):Int)≤(12:Int))=true→(decide (((List.length x0.1:Nat):Int)≤(12:Int))=true∧True))∧((decide (((List.length x0.1:Nat):Int)≤(12:Int))=true→decide (((List.length x0.1:Nat):Int)≤(12:Int))=true)∧Q (decide (((List.length x0.1:Nat):Int)≤(12:Int))&&ZbV.fn (x0.2,())))))) (0:Int)
def ZE.wp(x0:Zc)(Q:Bool→Prop):Prop:=let v0:=Zbk.fn (x0.2.2,());cond (x0.1 == (0:Int)) (cond (x0.1 == (0:Int)) (((x0.2.1 == (0:Int))=true→((x0.2.1 == (0:Int))=true∧True))∧(((x0.2.1 == (0:Int))=true→((x0.2.1 == (0:Int))=true∧True))∧(((x0.2.1 == (0:Int))=true→(x0.2.1 == (0:Int))=true)∧Q ((x0.2.1 == (0:Int))&&v0)))) (cond (x0.1 == (2:Int)) ((decide ((1:Int)≤x0.2.1)=true→(decide ((1:Int)≤x0.2.1)=true∧True))∧((decide ((1:Int)≤x0.2.1)=true→(decide ((1:Int)≤x0.2.1)=true∧True))∧((decide ((1:Int)≤x0.2.1)=true→decide ((1:Int)≤x0.2.1)=true)∧(((decide ((1:Int)≤x0.2.1)&&decide (x0.2.1≤(512:Int)))=true→((decide ((1:Int)≤x0.2.1)&&decide (x0.2.1≤(512:Int)))=true∧True))∧(((decide ((1:Int)≤x0.2.1)&&decide (x0.2.1≤(512:Int)))=true→((decide ((1:Int)≤x0.2.1)&&decide (x0.2.1≤(512:Int)))=true∧True))∧(((decide ((1:Int)≤x0.2.1)&&decide (x0.2.1≤(512:Int)))=true→(decide ((1:Int)≤x0.2.1)&&decide (x0.2.1≤(512:Int)))=true)∧Q ((decide ((1:Int)≤x0.2.1)&&decide (x0.2.1≤(512:Int)))&&v0))))))) (Q false))) (cond (x0.1 == (1:Int)) (((x0.2.1 == (0:Int))=true→((x0.2.1 == (0:Int))=true∧True))∧(((x0.2.1 == (0:Int))=true→((x0.2.1 == (0:Int))=true∧True))∧(((x0.2.1 == (0:Int))=true→(x0.2.1 == (0:Int))=true)∧Q ((x0.2.1 == (0:Int))&&v0)))) (cond (x0.1 == (2:Int)) ((decide ((1:Int)≤x0.2.1)=true→(decide ((1:Int)≤x0.2.1)=true∧True))∧((decide ((1:Int)≤x0.2.1)=true→(decide ((1:Int)≤x0.2.1)=true∧True))∧((decide ((1:Int)≤x0.2.1)=true→decide ((1:Int)≤x0.2.1)=true)∧(((decide ((1:Int)≤x0.2.1)&&decide (x0.2.1≤(512:Int)))=true→((decide ((1:Int)≤x0.2.1)&&decide (x0.2.1≤(512:Int)))=true∧True))∧(((decide ((1:Int)≤x0.2.1)&&decide (x0.2.1≤(512:Int)))=true→((decide ((1:Int)≤x0.2.1)&&decide (x0.2.1≤(512:Int)))=true∧True))∧(((decide ((1:Int)≤x0.2.1)&&decide (x0.2.1≤(512:Int)))=true→(decide ((1:Int)≤x0.2.1)&&decide (x0.2.1≤(512:Int)))=true)∧Q ((decide ((1:Int)≤x0.2.1)&&decide (x0.2.1≤(512:Int)))&&v0))))))) (Q false)))
def Zb2.wp(x0:List Zc)(x1:Int)(Q:Bool→Prop):Prop:=Lp (σ:=Int) (fun y3 R3=>let v0:=List.getD x0 (Int.toNat y3) Za;cond (decide (y3 < ((List.length x0:Nat):Int))) (((0:Int)≤y3∧y3 < ((List.length x0:Nat):Int))∧(((!(!(ZE.fn (v0,()))))=true→((!(!(ZE.fn (v0,()))))=true∧True))∧(((!(!(ZE.fn (v0,()))))=true→((!(!(ZE.fn (v0,()))))=true∧True))∧(((!(!(ZE.fn (v0,()))))=true→((!(!(ZE.fn (v0,()))))=true∧True))∧(((!(!(ZE.fn (v0,()))))=true→((!(!(ZE.fn (v0,()))))=true∧((!(!(ZE.fn (v0,()))))=true∧True)))∧(((!(ZE.fn (v0,())))=false→(!(!(ZE.fn (v0,()))))=true)∧cond ((!(ZE.fn (v0,())))||(((List.length v0.2.2.1:Nat):Int) != x1)) (Q false) (Zm IntKind.i64 (y3+(1:Int))∧R3 (y3+(1:Int))))))))) (Q true)) (0:Int)
def Zao.wp(x0:Int×(List (List Zc)))(Q:Bool→Prop):Prop:=(((!(decide (x0.1 < (0:Int))))=true→((!(decide (x0.1 < (0:Int))))=true∧True))∧(((!(decide (x0.1 < (0:Int))))=true→((!(decide (x0.1 < (0:Int))))=true∧True))∧((decide (x0.1 < (0:Int))=false→(!(decide (x0.1 < (0:Int))))=true)∧(((!(decide (x0.1 < (0:Int))||decide ((12:Int) < x0.1)))=true→((!(decide (x0.1 < (0:Int))||decide ((12:Int) < x0.1)))=true∧True))∧(((!(decide (x0.1 < (0:Int))||decide ((12:Int) < x0.1)))=true→((!(decide (x0.1 < (0:Int))||decide ((12:Int) < x0.1)))=true∧True))∧(((!(decide (x0.1 < (0:Int))||decide ((12:Int) < x0.1)))=true→((!(decide (x0.1 < (0:Int))||decide ((12:Int) < x0.1)))=true∧True))∧(((decide (x0.1 < (0:Int))||decide ((12:Int) < x0.1))=false→(!(decide (x0.1 < (0:Int))||decide ((12:Int) < x0.1)))=true)∧cond ((decide (x0.1 < (0:Int))||decide ((12:Int) < x0.1))||decide ((400:Int) < ((List.length x0.2:Nat):Int))) (Q false) (Lp (σ:=Int) (fun y2 R2=>let v0:=List.getD x0.2 (Int.toNat y2) ([]:List (Zc));cond (decide (y2 < ((List.length x0.2:Nat):Int))) (((0:Int)≤y2∧y2 < ((List.length x0.2:Nat):Int))∧(((!(decide ((96:Int) < ((List.length v0:Nat):Int))))=true→((!(decide ((96:Int) < ((List.length v0:Nat):Int))))=true∧True))∧(((!(decide ((96:Int) < ((List.length v0:Nat):Int))))=true→((!(decide ((96:Int) < ((List.length v0:Nat):Int))))=true∧((!(decide ((96:Int) < ((List.length v0:Nat):Int))))=true∧True)))∧(((!(decide ((96:Int) < ((List.length v0:Nat):Int))))=true→((!(decide ((96:Int) < ((List.length v0:Nat):Int))))=true∧True))∧((decide ((96:Int) < ((List.length v0:Nat):Int))=false→(!(decide ((96:Int) < ((List.length v0:Nat):Int))))=true)∧cond (decide ((96:Int) < ((List.length v0:Nat):Int))||(!(Zb2.fn (v0,(x0.1,()))))) (Q false) (Zm IntKind.i64 (y2+(1:Int))∧R2 (y2+(1:Int)))))))) (Q true)) (0:Int)))))))))
def ZbG.wp(x0:Int×(List (List Zc)))(x1:Int×(List (List Zc)))(Q:Int→Prop):Prop:=(((!(!(Zao.fn (x0,()))))=true→((!(!(Zao.fn (x0,()))))=true∧True))∧(((!(!(Zao.fn (x0,()))))=true→((!(!(Zao.fn (x0,()))))=true∧True))∧(((!(Zao.fn (x0,())))=false→(!(!(Zao.fn (x0,()))))=true)∧cond ((!(Zao.fn (x0,())))||(!(Zao.fn (x1,())))) (Q (1:Int)) (cond (x0.1 != x1.1) (Q (2:Int)) (Q (0:Int))))))
def Zbg.wp(x0:Int)(Q:Bool→Prop):Prop:=((decide ((-(1048576:Int))≤x0)=true→(decide ((-(1048576:Int))≤x0)=true∧True))∧((decide ((-(1048576:Int))≤x0)=true→decide ((-(1048576:Int))≤x0)=true)∧Q (decide ((-(1048576:Int))≤x0)&&decide (x0≤(1048576:Int)))))
def ZaZ.wp(x0:Lin)(Q:Bool→Prop):Prop:=Lp (σ:=Int) (fun y2 R2=>cond (decide (y2 < ((List.length x0.1:Nat):Int))) (((0:Int)≤y2∧y2 < ((List.length x0.1:Nat):Int))∧cond (!(Zbg.fn ((List.getD x0.1 (Int.toNat y2) (0:Int)),()))) (Q false) (Zm IntKind.i64 (y2+(1:Int))∧R2 (y2+(1:Int)))) ((decide (((List.length x0.1:Nat):Int)≤(12:Int))=true→(decide (((List.length x0.1:Nat):Int)≤(12:Int))=true∧True))∧((decide (((List.length x0.1:Nat):Int)≤(12:Int))=true→(decide (((List.length x0.1:Nat):Int)≤(12:Int))=true∧True))∧((decide (((List.length x0.1:Nat):Int)≤(12:Int))=true→decide (((List.length x0.1:Nat):Int)≤(12:Int))=true)∧Q (decide (((List.length x0.1:Nat):Int)≤(12:Int))&&(Zbg.fn (x0.2,()))))))) (0:Int)
def Zaq.wp(x0:Zc)(Q:Bool→Prop):Prop:=cond (!(ZaZ.fn (x0.2.2,()))) (Q false) (cond (x0.1 == (2:Int)) ((decide ((1:Int)≤x0.2.1)=true→(decide ((1:Int)≤x0.2.1)=true∧True))∧((decide ((1:Int)≤x0.2.1)=true→(decide ((1:Int)≤x0.2.1)=true∧True))∧((decide ((1:Int)≤x0.2.1)=true→decide ((1:Int)≤x0.2.1)=true)∧Q (decide ((1:Int)≤x0.2.1)&&decide (x0.2.1≤(512:Int)))))) (((!(x0.1 == (0:Int)))=true→((!(x0.1 == (0:Int)))=true∧True))∧(((!(x0.1 == (0:Int)))=true→((!(x0.1 == (0:Int)))=true∧True))∧(((x0.1 == (0:Int))=false→(!(x0.1 == (0:Int)))=true)∧((((x0.1 == (0:Int))||(x0.1 == (1:Int)))=true→(((x0.1 == (0:Int))||(x0.1 == (1:Int)))=true∧True))∧((((x0.1 == (0:Int))||(x0.1 == (1:Int)))=true→(((x0.1 == (0:Int))||(x0.1 == (1:Int)))=true∧True))∧((((x0.1 == (0:Int))||(x0.1 == (1:Int)))=true→((x0.1 == (0:Int))||(x0.1 == (1:Int)))=true)∧Q (((x0.1 == (0:Int))||(x0.1 == (1:Int)))&&(x0.2.1 == (0:Int))))))))))
def ZJ.wp(x0:Int×(List (List Zc)))(Q:Bool→Prop):Prop:=(((!(decide (x0.1 < (0:Int))))=true→((!(decide (x0.1 < (0:Int))))=true∧True))∧(((!(decide (x0.1 < (0:Int))))=true→((!(decide (x0.1 < (0:Int))))=true∧True))∧((decide (x0.1 < (0:Int))=false→(!(decide (x0.1 < (0:Int))))=true)∧(((!(decide (x0.1 < (0:Int))||decide ((12:Int) < x0.1)))=true→((!(decide (x0.1 < (0:Int))||decide ((12:Int) < x0.1)))=true∧True))∧(((!(decide (x0.1 < (0:Int))||decide ((12:Int) < x0.1)))=true→((!(decide (x0.1 < (0:Int))||decide ((12:Int) < x0.1)))=true∧True))∧(((!(decide (x0.1 < (0:Int))||decide ((12:Int) < x0.1)))=true→((!(decide (x0.1 < (0:Int))||decide ((12:Int) < x0.1)))=true∧True))∧(((decide (x0.1 < (0:Int))||decide ((12:Int) < x0.1))=false→(!(decide (x0.1 < (0:Int))||decide ((12:Int) < x0.1)))=true)∧cond ((decide (x0.1 < (0:Int))||decide ((12:Int) < x0.1))||decide ((400:Int) < ((List.length x0.2:Nat):Int))) (Q false) (Lp (σ:=Int) (fun y2 R2=>let v0:=List.getD x0.2 (Int.toNat y2) ([]:List (Zc));cond (decide (y2 < ((List.length x0.2:Nat):Int))) (((0:Int)≤y2∧y2 < ((List.length x0.2:Nat):Int))∧cond (decide ((96:Int) < ((List.length v0:Nat):Int))) (Q false) (Lp (σ:=Int) (fun y4 R4=>let v1:=List.getD v0 (Int.toNat y4) Za;let v2:=Zaq.fn (v1,());cond (decide (y4 < ((List.length v0:Nat):Int))) (((0:Int)≤y4∧y4 < ((List.length v0:Nat):Int))∧(((!(!v2))=true→((!(!v2))=true∧True))∧(((!(!v2))=true→((!(!v2))=true∧True))∧(((!(!v2))=true→((!(!v2))=true∧True))∧(((!(!v2))=true→((!(!v2))=true∧True))∧(((!(!v2))=true→((!(!v2))=true∧((!(!v2))=true∧True)))∧(((!v2)=false→(!(!v2))=true)∧cond ((!v2)||(((List.length v1.2.2.1:Nat):Int) != x0.1)) (Q false) (Zm IntKind.i64 (y4+(1:Int))∧R4 (y4+(1:Int)))))))))) (Zm IntKind.i64 (y2+(1:Int))∧R2 (y2+(1:Int)))) (0:Int))) (Q true)) (0:Int)))))))))
def Zbp.wp(x0:Int×(List (List Zc)))(x1:Int×(List (List Zc)))(Q:Int→Prop):Prop:=(((!(!(ZJ.fn (x0,()))))=true→((!(!(ZJ.fn (x0,()))))=true∧True))∧(((!(!(ZJ.fn (x0,()))))=true→((!(!(ZJ.fn (x0,()))))=true∧True))∧(((!(ZJ.fn (x0,())))=false→(!(!(ZJ.fn (x0,()))))=true)∧cond ((!(ZJ.fn (x0,())))||(!(ZJ.fn (x1,())))) (Q (1:Int)) (cond (x0.1 != x1.1) (Q (2:Int)) (Q (0:Int))))))
def Zbn.wp(x0:Lin)(x1:Lin)(Q:Bool→Prop):Prop:=(((!(((List.length x0.1:Nat):Int) != ((List.length x1.1:Nat):Int)))=true→((!(((List.length x0.1:Nat):Int) != ((List.length x1.1:Nat):Int)))=true∧True))∧(((!(((List.length x0.1:Nat):Int) != ((List.length x1.1:Nat):Int)))=true→((!(((List.length x0.1:Nat):Int) != ((List.length x1.1:Nat):Int)))=true∧True))∧(((!(((List.length x0.1:Nat):Int) != ((List.length x1.1:Nat):Int)))=true→((!(((List.length x0.1:Nat):Int) != ((List.length x1.1:Nat):Int)))=true∧((!(((List.length x0.1:Nat):Int) != ((List.length x1.1:Nat):Int)))=true∧True)))∧(((((List.length x0.1:Nat):Int) != ((List.length x1.1:Nat):Int))=false→(!(((List.length x0.1:Nat):Int) != ((List.length x1.1:Nat):Int)))=true)∧cond ((((List.length x0.1:Nat):Int) != ((List.length x1.1:Nat):Int))||(x0.2 != x1.2)) (Q false) (Lp (σ:=Int) (fun y3 R3=>cond (decide (y3 < ((List.length x0.1:Nat):Int))) (((0:Int)≤y3∧y3 < ((List.length x0.1:Nat):Int))∧(((0:Int)≤y3∧y3 < ((List.length x1.1:Nat):Int))∧cond ((List.getD x0.1 (Int.toNat y3) (0:Int)) != (List.getD x1.1 (Int.toNat y3) (0:Int))) (Q false) (Zm IntKind.i64 (y3+(1:Int))∧R3 (y3+(1:Int))))) (Q true)) (0:Int))))))
def Za3.wp(x0:Zc)(x1:Zc)(Q:Bool→Prop):Prop:=(((x0.1 == x1.1)=true→((x0.1 == x1.1)=true∧True))∧(((x0.1 == x1.1)=true→((x0.1 == x1.1)=true∧True))∧(((x0.1 == x1.1)=true→((x0.1 == x1.1)=true∧((x0.1 == x1.1)=true∧True)))∧(((x0.1 == x1.1)=true→(x0.1 == x1.1)=true)∧((((x0.1 == x1.1)&&(x0.2.1 == x1.2.1))=true→(((x0.1 == x1.1)&&(x0.2.1 == x1.2.1))=true∧True))∧((((x0.1 == x1.1)&&(x0.2.1 == x1.2.1))=true→(((x0.1 == x1.1)&&(x0.2.1 == x1.2.1))=true∧True))∧((((x0.1 == x1.1)&&(x0.2.1 == x1.2.1))=true→(((x0.1 == x1.1)&&(x0.2.1 == x1.2.1))=true∧(((x0.1 == x1.1)&&(x0.2.1 == x1.2.1))=true∧True)))∧((((x0.1 == x1.1)&&(x0.2.1 == x1.2.1))=true→((x0.1 == x1.1)&&(x0.2.1 == x1.2.1))=true)∧Q (((x0.1 == x1.1)&&(x0.2.1 == x1.2.1))&&(Zbn.fn (x0.2.2,(x1.2.2,()))))))))))))
def ZS.wp(x0:List Zc)(x1:List Zc)(Q:Bool→Prop):Prop:=cond (((List.length x0:Nat):Int) != ((List.length x1:Nat):Int)) (Q false) (Lp (σ:=Int) (fun y3 R3=>cond (decide (y3 < ((List.length x0:Nat):Int))) (((0:Int)≤y3∧y3 < ((List.length x0:Nat):Int))∧(((0:Int)≤y3∧y3 < ((List.length x1:Nat):Int))∧cond (!(Za3.fn ((List.getD x0 (Int.toNat y3) Za),((List.getD x1 (Int.toNat y3) Za),())))) (Q false) (Zm IntKind.i64 (y3+(1:Int))∧R3 (y3+(1:Int))))) (Q true)) (0:Int))
def Za4.wp(x0:Int×(List (List Zc)))(x1:Int×(List (List Zc)))(Q:Bool→Prop):Prop:=(((!(x0.1 != x1.1))=true→((!(x0.1 != x1.1))=true∧True))∧(((!(x0.1 != x1.1))=true→((!(x0.1 != x1.1))=true∧True))∧(((!(x0.1 != x1.1))=true→((!(x0.1 != x1.1))=true∧True))∧(((!(x0.1 != x1.1))=true→((!(x0.1 != x1.1))=true∧True))∧(((!(x0.1 != x1.1))=true→((!(x0.1 != x1.1))=true∧((!(x0.1 != x1.1))=true∧True)))∧(((x0.1 != x1.1)=false→(!(x0.1 != x1.1))=true)∧cond ((x0.1 != x1.1)||(((List.length x0.2:Nat):Int) != ((List.length x1.2:Nat):Int))) (Q false) (Lp (σ:=Int) (fun y3 R3=>cond (decide (y3 < ((List.length x0.2:Nat):Int))) (((0:Int)≤y3∧y3 < ((List.length x0.2:Nat):Int))∧(((0:Int)≤y3∧y3 < ((List.length x1.2:Nat):Int))∧cond (!(ZS.fn ((List.getD x0.2 (Int.toNat y3) ([]:List (Zc))),((List.getD x1.2 (Int.toNat y3) ([]:List (Zc))),())))) (Q false) (Zm IntKind.i64 (y3+(1:Int))∧R3 (y3+(1:Int))))) (Q true)) (0:Int))))))))
def Zbw.wp(x0:Int)(Q:Int→Prop):Prop:=let v0:=IntKind.wrap IntKind.u64 x0;cond (decide (x0 < (0:Int))) (Q (IntKind.wrap IntKind.u64 (-v0))) (Q v0)
def Zal.wp(x0:Int)(x1:Int)(Q:Int→Prop):Prop:=Lp (σ:=Int×Int) (fun y3 R3=>cond (decide ((0:Int) < y3.1)) (y3.1≠(0:Int)∧R3 (Int.tmod y3.2 y3.1,y3.1)) (Q y3.2)) (x1,x0)
def ZaS.wp(x0:Int)(x1:Int)(Q:Int→Prop):Prop:=Q (Zal.fn (x0,(Zbw.fn (x1,()),())))
def ZG.wp(x0:List Int)(x1:Int)(x2:(Int×Int→Prop)×(Int×Int→Int))(Q:Int→Prop):Prop:=Lp (σ:=Int×Int) (fun y4 R4=>let v0:=List.getD x0 (Int.toNat y4.1) (0:Int);cond (decide (y4.1 < ((List.length x0:Nat):Int))) (((0:Int)≤y4.1∧y4.1 < ((List.length x0:Nat):Int))∧(x2.1 (y4.2,v0)∧(Zm IntKind.i64 (y4.1+(1:Int))∧R4 ((y4.1+(1:Int)),x2.2 (y4.2,v0))))) (Q y4.2)) ((0:Int),x1)
def Zbt.wp(x0:List Int)(Q:Int×Int→Prop):Prop:=let v0:=ZG.fn (x0,((0:Int),((fun (a2:Int×Int)=>True,fun (a2:Int×Int)=>ZaS.fn (a2.1,(a2.2,()))),())));(ZG.pre (x0,((0:Int),((fun (a2:Int×Int)=>True,fun (a2:Int×Int)=>ZaS.fn (a2.1,(a2.2,()))),())))∧cond (decide ((9223372036854775807:Int) < v0)) (Q ((0:Int),(3:Int))) (Zm IntKind.i64 v0∧Q (v0,(0:Int))))
def ZaH.wp(x0:Int)(x1:Int)(Q:Int×Int→Prop):Prop:=cond (decide (x1 < (1:Int))) (Q ((0:Int),(1:Int))) ((x1≠(0:Int)∧Zm IntKind.i64 (Int.tdiv x0 x1))∧(x1≠(0:Int)∧cond (decide (Int.tmod x0 x1 < (0:Int))) (Zm IntKind.i64 (Int.tdiv x0 x1 - (1:Int))∧Q ((Int.tdiv x0 x1 - (1:Int)),(0:Int))) (Q (Int.tdiv x0 x1,(0:Int)))))
def Zbq.wp(x0:Int)(x1:Int)(Q:Int×Int→Prop):Prop:=cond (decide (x1 < (1:Int))) (Q ((0:Int),(1:Int))) (x1≠(0:Int)∧cond (decide (Int.tmod x0 x1 < (0:Int))) (Zm IntKind.i64 (Int.tmod x0 x1+x1)∧Q ((Int.tmod x0 x1+x1),(0:Int))) (Q (Int.tmod x0 x1,(0:Int))))
def Zbf.wp(x0:List Int)(Q:Int×Int→Prop):Prop:=Lp (σ:=Int×Int) (fun y2 R2=>cond (decide (y2.1 < ((List.length x0:Nat):Int))) (((0:Int)≤y2.1∧y2.1 < ((List.length x0:Nat):Int))∧Lp (σ:=Int×Int) (fun y4 R4=>cond (y4.1 != (0:Int)) (y4.1≠(0:Int)∧R4 (Int.tmod y4.2 y4.1,y4.1)) (Zm IntKind.i64 (y2.1+(1:Int))∧R2 ((y2.1+(1:Int)),y4.2))) (Zbu.fn ((List.getD x0 (Int.toNat y2.1) (0:Int)),()),y2.2)) (cond (y2.2 == (9223372036854775808:Int)) (Q ((0:Int),(3:Int))) (Zm IntKind.i64 y2.2∧Q (y2.2,(0:Int))))) ((0:Int),(0:Int))
def ZaA.wp(x0:Int)(x1:Int)(Q:Int×Int→Prop):Prop:=cond (decide (x1 < (1:Int))) (Q ((0:Int),(1:Int))) ((x1≠(0:Int)∧Zm IntKind.i64 (Int.tdiv x0 x1))∧(x1≠(0:Int)∧cond (decide (Int.tmod x0 x1 < (0:Int))) (Zm IntKind.i64 (Int.tdiv x0 x1 - (1:Int))∧Q ((Int.tdiv x0 x1 - (1:Int)),(0:Int))) (Q (Int.tdiv x0 x1,(0:Int)))))
def ZaQ.wp(x0:Int)(x1:Int)(Q:Int×Int→Prop):Prop:=cond (decide (x1 < (1:Int))) (Q ((0:Int),(1:Int))) (x1≠(0:Int)∧cond (decide (Int.tmod x0 x1 < (0:Int))) (Zm IntKind.i64 (Int.tmod x0 x1+x1)∧Q ((Int.tmod x0 x1+x1),(0:Int))) (Q (Int.tmod x0 x1,(0:Int))))
def Zbu.wp(x0:Int)(Q:Int→Prop):Prop:=let v0:=IntKind.wrap IntKind.u64 x0;cond (decide (x0 < (0:Int))) (Q (IntKind.wrap IntKind.u64 (-v0))) (Q v0)
theorem ZbV.spec(x:Int):ZbV.wp x (fun r=>r=ZbV.fn (x,())):=by simp[ZbV.wp,ZbV.fn,Fit]
theorem Zbg.spec(x:Int):Zbg.wp x (fun r=>r=Zbg.fn (x,())):=by simp[Zbg.wp,Zbg.fn,Fit]
theorem Zbk.spec(x:Lin)(hl:x.1.length≤9223372036854775807):Zbk.wp x (fun r=>r=Zbk.fn (x,())):=by
 refine Lp.all x.1 0 Fit hl (fun i R hi hi' hf ht hff=>?_) (fun R h=>?_)
 ·rw[decide_eq_true hi']
  refine⟨⟨by omega,hi'⟩,?_⟩
  rw[Int.toNat_natCast]
  show cond (!Fit (x.1.getD i 0)) _ _
  cases h:Fit (x.1.getD i 0) with
  | true=>exact⟨hf,ht h⟩
  | false=>simp[Zbk.fn,Z4,hff h]
 ·simp[Zbk.fn,ZbV.fn,Z4,h]
theorem ZaZ.spec(x:Lin)(hl:x.1.length≤9223372036854775807):ZaZ.wp x (fun r=>r=ZaZ.fn (x,())):=by
 refine Lp.all x.1 0 Fit hl (fun i R hi hi' hf ht hff=>?_) (fun R h=>?_)
 ·rw[decide_eq_true hi']
  refine⟨⟨by omega,hi'⟩,?_⟩
  rw[Int.toNat_natCast]
  show cond (!Fit (x.1.getD i 0)) _ _
  cases h:Fit (x.1.getD i 0) with
  | true=>exact⟨hf,ht h⟩
  | false=>simp[ZaZ.fn,Z4,hff h]
 ·simp[ZaZ.fn,Zbg.fn,Z4,h]
theorem ZE.spec(x:Zc):ZE.wp x (fun r=>r=ZE.fn (x,())):=by
 obtain⟨k,m,l⟩:=x
 by_cases h0:k=0
 ·subst h0;simp[ZE.wp,ZE.fn,Zd,Zbk.fn]
 by_cases h1:k=1
 ·subst h1;simp[ZE.wp,ZE.fn,Zd,Zbk.fn]
 by_cases h2:k=2
 ·subst h2;simp[ZE.wp,ZE.fn,Zd,Zbk.fn]
 simp[ZE.wp,ZE.fn,Zd,Zbk.fn,h0,h1,h2]
theorem Zaq.spec(x:Zc):Zaq.wp x (fun r=>r=Zaq.fn (x,())):=by
 obtain⟨k,m,l⟩:=x
 simp only[Zaq.wp,Zaq.fn,Zd,ZaZ.fn]
 cases hl:Z4 l<;>by_cases h0:k=0
 all_goals first | (subst h0;simp;done) | skip
 all_goals by_cases h1:k=1
 all_goals first | (subst h1;simp;done) | skip
 all_goals by_cases h2:k=2
 all_goals first | (subst h2;simp;done) | skip
 all_goals simp[h0,h1,h2]
theorem Zb2.spec(x:List Zc)(n:Int)(hl:x.length≤9223372036854775807):Zb2.wp x n (fun r=>r=Zb2.fn (x,n,())):=by
 refine Lp.all x Za (fun c=>Zd c&&((c.2.2.1.length:Int) == n)) hl (fun i R hi hi' hf ht hff=>?_) (fun R h=>?_)
 ·simp only[decide_eq_true hi',Int.toNat_natCast,ZE.fn]
  refine⟨⟨by omega,hi'⟩,?_⟩
  have ht':Zd (x.getD i Za)=true→(((x.getD i Za).2.2.1.length:Int) == n)=true→R ((i:Int)+1):=fun h1 h2=>ht (by rw[h1,h2];rfl)
  have hff':(Zd (x.getD i Za)&&(((x.getD i Za).2.2.1.length:Int) == n))=false→Zb2.fn (x,n,())=false:=fun h=>hff h
  revert ht' hff'
  generalize x.getD i Za=c
  intro ht' hff'
  cases h1:Zd c with
  | false=>simp[hff' (by rw[h1];rfl)]
  | true =>
    cases h2:((c.2.2.1.length:Int) == n) with
    | true=>simp[bne,h2,hf,ht' h1 h2]
    | false=>simp[bne,h2,hff' (by rw[h1,h2];rfl)]
 ·simp[Zb2.fn,Zmc,h]
theorem Zao.spec(x:ZbZ)(hl:x.2.length≤9223372036854775807):Zao.wp x (fun r=>r=Zao.fn (x,())):=by
 obtain⟨n,ps⟩:=x
 simp only[Zao.wp,Zao.fn]
 have hg:∀ b:Bool,(b=true→b=true∧True):=fun b h=>⟨h,trivial⟩
 have hn:∀ b:Bool,(b=false→(!b)=true):=fun b h=>by rw[h];rfl
 refine⟨hg _,hg _,hn _,hg _,hg _,hg _,hn _,?_⟩
 by_cases h1:n < 0
 ·simp[h1,Zr,show ¬ 0≤n by omega]
 by_cases h2:12 < n
 ·simp[h1,h2,Zr,show ¬ n≤12 by omega]
 by_cases h3:(400:Int) < (ps.length:Int)
 ·simp only[decide_eq_true h3,Bool.or_true,cond_true]
  simp[Zr,show ¬ ((ps.length:Int)≤400) by omega]
 rw[decide_eq_false h1,decide_eq_false h2,decide_eq_false h3]
 have hv:∀ b,ps.all (fun p=>decide ((p.length:Int)≤96)&&Zmc p n)=b→Zr (n,ps)=b:=fun b h=>by
  simp only[Zr,h]
  rw[decide_eq_true (show (0:Int)≤n by omega),decide_eq_true (show n≤12 by omega),decide_eq_true (show (ps.length:Int)≤400 by omega)]
  rfl
 refine Lp.all ps [] (fun p=>decide ((p.length:Int)≤96)&&Zmc p n) hl (fun i R hi hi' hf ht hff=>?_) (fun R h=>?_)
 ·simp only[decide_eq_true hi',Int.toNat_natCast,Zb2.fn]
  refine⟨⟨by omega,hi'⟩,?_⟩
  by_cases h4:(96:Int) < ((ps.getD i []).length:Int)
  ·simp only[decide_eq_true h4]
   have:=hv false (hff (by rw[decide_eq_false (show ¬ (((ps.getD i []).length:Int)≤96) by omega)];rfl))
   simp[this]
  ·simp only[decide_eq_false h4]
   cases h5:Zmc (ps.getD i []) n with
   | true =>
     have:=ht (by rw[h5,decide_eq_true (show (((ps.getD i []).length:Int)≤96) by omega)];rfl)
     simp[hf,this]
   | false =>
     have:=hv false (hff (by rw[h5,Bool.and_false]))
     simp[this]
 ·simp[hv true h]
theorem ZbG.spec(x y:ZbZ):ZbG.wp x y (fun r=>r=ZbG.fn (x,y,())):=by
 simp only[ZbG.wp,Zao.fn,ZbG.fn,Zd7]
 by_cases h:x.1=y.1<;>cases Zr x<;>cases Zr y<;>simp[h]
theorem Zbp.spec(x y:ZbZ):Zbp.wp x y (fun r=>r=Zbp.fn (x,y,())):=by
 simp only[Zbp.wp,ZJ.fn,Zbp.fn,Zd7]
 by_cases h:x.1=y.1<;>cases Zr x<;>cases Zr y<;>simp[h]
theorem ZoH{α:Type}{a b:List α}{d:α}(hl:a.length=b.length)(h:∀ j,j < a.length→a.getD j d=b.getD j d):a=b:=by
 apply List.ext_getElem hl
 intro i h1 h2
 have:=h i h1
 rwa [ZN h1,ZN h2] at this
theorem Zbn.spec(x y:Lin)(hl:x.1.length≤9223372036854775807):Zbn.wp x y (fun r=>r=Zbn.fn (x,y,())):=by
 obtain⟨c,k⟩:=x
 obtain⟨d,m⟩:=y
 simp only[Zbn.wp,Zbn.fn]
 have hg:∀ b:Bool,(b=true→b=true∧True):=fun b h=>⟨h,trivial⟩
 refine⟨hg _,hg _,fun h=>⟨h,h,trivial⟩,fun h=>by rw[h];rfl,?_⟩
 by_cases h1:c.length=d.length
 ·by_cases h2:k=m
  ·subst h2
   simp only[h1,bne_self_eq_false,Bool.or_false,cond_false]
   rw[show ((d.length:Nat):Int)=(c.length:Int) by omega]
   refine Lp.iter c.length (fun i y=>y=(i:Int)∧∀ j,j < i→c.getD j 0=d.getD j 0) ⟨rfl,fun j hj=>absurd hj (by omega)⟩ ?_
   rintro i y hle ⟨rfl,hi⟩ R hR
   by_cases e:i < c.length
   ·rw[decide_eq_true (show (i:Int) < (c.length:Int) by omega)]
    refine⟨⟨by omega,by omega⟩,⟨by omega,by omega⟩,?_⟩
    rw[Int.toNat_natCast]
    by_cases h3:c.getD i 0=d.getD i 0
    ·rw[h3]
     simp only[bne_self_eq_false,cond_false]
     have hlc:c.length≤9223372036854775807:=hl
     refine⟨⟨by omega,by omega⟩,hR e _ ⟨by omega,fun j hj=>?_⟩⟩
     by_cases ej:j=i
     ·subst ej;exact h3
     ·exact hi j (by omega)
    ·rw[bne_iff_ne.2 h3]
     refine (decide_eq_false fun h=>h3 ?_).symm
     rw[Prod.mk.injEq] at h
     rw[h.1]
   ·have:i=c.length:=by omega
    subst this
    simp only[Int.lt_irrefl,decide_false,cond_false]
    exact (decide_eq_true (by rw[ZoH h1 hi])).symm
  ·simp only[bne_iff_ne.2 h2,Bool.or_true,cond_true]
   exact (decide_eq_false fun h=>h2 (by rw[Prod.mk.injEq] at h;exact h.2)).symm
 ·simp only[bne_iff_ne.2 (show ((c.length:Nat):Int)≠(d.length:Int) by omega),Bool.true_or,cond_true]
  exact (decide_eq_false fun h=>h1 (by rw[Prod.mk.injEq] at h;rw[h.1])).symm
theorem Za3.spec(x y:Zc):Za3.wp x y (fun r=>r=Za3.fn (x,y,())):=by
 obtain⟨k,m,l⟩:=x
 obtain⟨k',m',l'⟩:=y
 simp only[Za3.wp,Za3.fn,Zbn.fn]
 by_cases h1:k=k'<;>by_cases h2:m=m'<;>simp[h1,h2,Prod.ext_iff]
theorem ZiR {α : Type} {d : α} [DecidableEq α] {a b : List α} {Q : Bool → Prop} {body : Int → (Int → Prop) → Prop} (hl : a.length ≤ 9223372036854775807) (h1 : a.length = b.length) (hQ : Q (decide (a = b)))
 (h:∀ (i:Nat) (R:Int→Prop),i < a.length→i < b.length→Zm .i64 ((i:Int)+1)→(a.getD i d=b.getD i d→R ((i:Int)+1))→(a.getD i d≠b.getD i d→Q false)→body (i:Int) R) (h2:∀ R:Int→Prop,Q true→body (a.length:Int) R):Lp body 0:=by
 refine Lp.iter a.length (fun i y=>y=(i:Int)∧∀ j,j < i→a.getD j d=b.getD j d) ⟨rfl,fun j hj=>absurd hj (by omega)⟩ ?_
 rintro i y hle ⟨rfl,hi⟩ R hR
 by_cases e:i < a.length
 ·refine h i R e (by omega) ⟨by omega,by omega⟩ (fun he=>hR e _ ⟨by omega,fun j hj=>?_⟩) (fun hne=>?_)
  ·by_cases ej:j=i
   ·subst ej;exact he
   ·exact hi j (by omega)
  ·rwa [decide_eq_false (fun h=>hne (by rw[h]))] at hQ
 ·have:i=a.length:=by omega
  subst this
  refine h2 R ?_
  rwa [decide_eq_true (ZoH h1 hi)] at hQ
theorem ZS.spec(x y:List Zc)(hl:x.length≤9223372036854775807):ZS.wp x y (fun r=>r=ZS.fn (x,y,())):=by
 simp only[ZS.wp]
 by_cases h1:x.length=y.length
 ·rw[h1]
  simp only[bne_self_eq_false,cond_false]
  rw[← h1]
  refine ZiR (d:=Za) hl h1 (Q:=fun r=>r=ZS.fn (x,y,())) rfl (fun i R hi hi2 hf ht hff=>?_) (fun R h=>?_)
  ·rw[decide_eq_true (show (i:Int) < (x.length:Int) by omega)]
   refine⟨⟨by omega,by omega⟩,⟨by omega,by omega⟩,?_⟩
   simp only[Int.toNat_natCast,Za3.fn]
   by_cases e:x.getD i Za=y.getD i Za
   ·rw[decide_eq_true e];exact⟨hf,ht e⟩
   ·rw[decide_eq_false e];exact hff e
  ·simp only[Int.lt_irrefl,decide_false,cond_false];exact h
 ·rw[bne_iff_ne.2 (show ((x.length:Nat):Int)≠(y.length:Int) by omega)]
  exact (decide_eq_false fun h=>h1 (congrArg List.length h)).symm
theorem Za4.spec(x y:ZbZ)(hl:x.2.length≤9223372036854775807):Za4.wp x y (fun r=>r=Za4.fn (x,y,())):=by
 obtain⟨n,a⟩:=x
 obtain⟨m,b⟩:=y
 simp only[Za4.wp]
 have hg:∀ b:Bool,(b=true→b=true∧True):=fun b h=>⟨h,trivial⟩
 refine⟨hg _,hg _,hg _,hg _,fun h=>⟨h,h,trivial⟩,fun h=>by rw[h];rfl,?_⟩
 by_cases h0:n=m
 ·by_cases h1:a.length=b.length
  ·subst h0
   simp only[h1,bne_self_eq_false,Bool.or_false,cond_false]
   rw[← h1]
   refine ZiR (d:=[]) (a:=a) (b:=b) hl h1 (Q:=fun r=>r=Za4.fn ((n,a),(n,b),())) (by simp[Za4.fn]) (fun i R hi hi2 hf ht hff=>?_) (fun R h=>?_)
   ·rw[decide_eq_true (show (i:Int) < (a.length:Int) by omega)]
    refine⟨⟨by omega,by omega⟩,⟨by omega,by omega⟩,?_⟩
    simp only[Int.toNat_natCast,ZS.fn]
    by_cases e:a.getD i []=b.getD i []
    ·rw[decide_eq_true e];exact⟨hf,ht e⟩
    ·rw[decide_eq_false e];exact hff e
   ·simp only[Int.lt_irrefl,decide_false,cond_false];exact h
  ·simp only[bne_iff_ne.2 (show ((a.length:Nat):Int)≠(b.length:Int) by omega),Bool.or_true,cond_true]
   exact (decide_eq_false fun h=>h1 (by rw[Prod.mk.injEq] at h;rw[h.2])).symm
 ·simp only[bne_iff_ne.2 h0,Bool.true_or,cond_true]
  exact (decide_eq_false fun h=>h0 (by rw[Prod.mk.injEq] at h;rw[h.1])).symm
theorem Zbw.spec(n:Int):Zbw.wp n (fun r=>r=Zbw.fn (n,())):=by
 simp only[Zbw.wp,Zbw.fn]
 by_cases h:n < 0<;>simp[h]
theorem Zbu.spec(n:Int):Zbu.wp n (fun r=>r=Zbu.fn (n,())):=by
 simp only[Zbu.wp,Zbu.fn,Zbw.fn]
 by_cases h:n < 0<;>simp[h]
theorem Zrl(n:Int):IntKind.wrap .u64 n=n % 18446744073709551616:=by simp[IntKind.wrap,IntKind.bits,IntKind.signed]
theorem Zr6{n:Int}(h:-9223372036854775807≤n)(h2:n≤9223372036854775807):Zbw.fn (n,())=(n.natAbs:Int):=by
 simp only[Zbw.fn,Zrl]
 split
 ·have h3:n % 18446744073709551616=n+18446744073709551616:=by omega
  rw[h3];omega
 ·rw[Int.emod_eq_of_lt (by omega) (by omega)];omega
theorem Zpi{a b:Int}(ha:0≤a)(hb:0 < b):Nat.gcd b.toNat (a.tmod b).toNat=Nat.gcd a.toNat b.toNat:=by
 obtain⟨m,rfl⟩:∃ m:Nat,a=m:=⟨a.toNat,by omega⟩
 obtain⟨k,rfl⟩:∃ k:Nat,b=k:=⟨b.toNat,by omega⟩
 rw[Int.tmod_eq_emod_of_nonneg ha,← Int.natCast_emod,Int.toNat_natCast,Int.toNat_natCast,Int.toNat_natCast,Nat.gcd_comm m k,Nat.gcd_rec k m,Nat.gcd_comm]
theorem Zal.spec(a b:Int):Zal.wp a b (fun r=>r=Zal.fn (a,b,())):=by
 simp only[Zal.wp]
 refine Lp.wf (fun y=>Zal.fn (y.2,y.1,())=Zal.fn (a,b,())) (fun y=>y.1.toNat) (fun y hy R hR=>?_) rfl
 obtain⟨b',a'⟩:=y
 simp only at hy ⊢
 by_cases h:0 < b'
 ·rw[decide_eq_true h]
  have hlt:=Int.tmod_lt_of_pos a' h
  refine⟨by omega,hR _ ?_ (by omega)⟩
  rw[← hy]
  simp only[Zal.fn]
  rw[if_neg (show ¬ b'≤0 by omega)]
  by_cases ha:a' < 0
  ·rw[if_pos ha,if_pos (show a'.tmod b'≤0 from by
    have:=Int.tmod_nonneg b' (show 0≤-a' by omega)
    rw[Int.neg_tmod] at this
    omega)]
  ·rw[if_neg ha]
   have h0:=Int.tmod_nonneg b' (show 0≤a' by omega)
   have:=Zpi (show 0≤a' by omega) h
   by_cases hz:a'.tmod b'≤0
   ·rw[if_pos hz]
    have e:a'.tmod b'=0:=by omega
    rw[e] at this
    simp only[Int.toNat_zero,Nat.gcd_zero_right] at this
    rw[← this];omega
   ·rw[if_neg hz,if_neg (show ¬ b' < 0 by omega),this]
 ·rw[decide_eq_false h]
  rw[← hy]
  simp only[Zal.fn]
  rw[if_pos (show b'≤0 by omega)]
  rfl
theorem ZaS.fn_eq(a n:Int)(ha:0≤a)(h:-9223372036854775807≤n)(h2:n≤9223372036854775807):ZaS.fn (a,n,())=(Nat.gcd a.toNat n.natAbs:Nat):=by
 simp only[ZaS.fn,Zr6 h h2,Zal.fn]
 split
 ·have:n.natAbs=0:=by omega
  rw[this];simp;omega
 ·rw[if_neg (by omega)];simp
theorem ZaS.spec(a b:Int):ZaS.wp a b (fun r=>r=ZaS.fn (a,b,())):=rfl
theorem ZG.spec(l:List Int)(a:Int)(f:(Int×Int→Prop)×(Int×Int→Int))(hl:l.length≤9223372036854775807)(hp:ZG.pre (l,a,f,())):ZG.wp l a f (fun r=>r=ZG.fn (l,a,f,())):=by
 refine Lp.foldl l 0 (fun g n=>f.2 (g,n)) a hl (fun i t R hi hi' hf ht hR=>?_) (fun R=>?_)
 ·simp only[decide_eq_true hi',Int.toNat_natCast]
  exact⟨⟨by omega,hi'⟩,hp _ _ (Zi hi),hf,hR⟩
 ·simp only[Int.lt_irrefl,decide_false,cond_false]
theorem ZiG{l:List Int}(h:Zdd l):∀ g:Nat,l.foldl (fun g n=>ZaS.fn (g,n,())) (g:Int)=((l.foldl (fun g n=>Nat.gcd g n.natAbs) g:Nat):Int):=by
 induction l with
 | nil=>exact fun g=>rfl
 | cons n l ih =>
   intro g
   have hn:=h n (by simp)
   simp only[List.foldl_cons]
   rw[ZaS.fn_eq _ _ (by omega) hn.1 hn.2]
   exact ih (fun m hm=>h m (by simp[hm])) _
theorem ZkI{l:List Int}:∀ g:Nat,0 < g→l.foldl (fun g n=>Nat.gcd g n.natAbs) g≤g:=by
 induction l with
 | nil=>exact fun g _=>Nat.le_refl _
 | cons n l ih =>
   intro g hg
   simp only[List.foldl_cons]
   exact Nat.le_trans (ih _ (Nat.gcd_pos_of_pos_left _ hg)) (Nat.gcd_le_left _ hg)
theorem Zld{l:List Int}(h:Zdd l):Zbi l≤9223372036854775807:=by
 unfold Zbi
 have key:∀ l:List Int,Zdd l→l.foldl (fun g n=>Nat.gcd g n.natAbs) 0≤9223372036854775807:=by
  intro l
  induction l with
  | nil=>exact fun _=>by simp
  | cons n l ih =>
    intro h
    have hn:=h n (by simp)
    simp only[List.foldl_cons,Nat.gcd_zero_left]
    by_cases e:n.natAbs=0
    ·rw[e];exact ih (fun m hm=>h m (by simp[hm]))
    ·exact Nat.le_trans (ZkI _ (by omega)) (by omega)
 exact key l h
theorem Zbt.spec(l:List Int)(hp:Zbt.pre (l,())):Zbt.wp l (fun r=>r=Zbt.fn (l,())):=by
 have hle:Zbi l≤9223372036854775807:=Zld hp
 have e:ZG.fn (l,0,(fun _=>True,fun a=>ZaS.fn (a.1,a.2,())),())=(Zbi l:Int):=ZiG hp 0
 simp only[Zbt.wp]
 refine⟨fun _ _ _=>trivial,?_⟩
 rw[e,decide_eq_false (show ¬ (9223372036854775807:Int) < (Zbi l:Int) by omega)]
 exact⟨⟨by omega,by omega⟩,rfl⟩
theorem Ziq{a b:Int}(hb:0 < b):(a.tmod b < 0→a.tdiv b - 1=a / b∧a.tmod b+b=a % b)∧(¬ a.tmod b < 0→a.tdiv b=a / b∧a.tmod b=a % b):=by
 have h1:=Int.emod_nonneg a (show b≠0 by omega)
 have h2:=Int.emod_lt_of_pos a hb
 rw[Int.tmod_eq_emod,Int.tdiv_eq_ediv]
 split
 ·exact⟨fun h=>by omega,fun _=>⟨by omega,by omega⟩⟩
 ·rw[Int.sign_eq_one_of_pos hb]
  exact⟨fun _=>⟨by omega,by omega⟩,fun h=>by omega⟩
theorem Zp0{a b:Int}(hb:0 < b)(h:-9223372036854775807≤a)(h2:a≤9223372036854775807):-9223372036854775807≤a / b∧a / b≤9223372036854775807:=by
 constructor
 ·rw[Int.le_ediv_iff_mul_le hb]
  have:=Int.mul_le_mul_of_nonneg_left (show (1:Int)≤b by omega) (show (0:Int)≤9223372036854775807 by omega)
  rw[show (-9223372036854775807:Int)=-(9223372036854775807) from rfl,Int.neg_mul]
  omega
 ·refine Int.le_of_lt_add_one ?_
  rw[Int.ediv_lt_iff_lt_mul hb]
  have:=Int.mul_le_mul_of_nonneg_left (show (1:Int)≤b by omega) (show (0:Int)≤9223372036854775808 by omega)
  omega
theorem ZoV{a b:Int}(hp:ZaH.pre (a,b,())){Q:Int×Int→Prop}(h:Q (ZaH.fn (a,b,()))):cond (decide (b < (1:Int))) (Q ((0:Int),(1:Int))) ((b≠(0:Int)∧Zm IntKind.i64 (Int.tdiv a b))∧(b≠(0:Int)∧cond (decide (Int.tmod a b < (0:Int))) (Zm IntKind.i64 (Int.tdiv a b - (1:Int))∧Q ((Int.tdiv a b - (1:Int)),(0:Int))) (Q (Int.tdiv a b,(0:Int))))):=by
 simp only[ZaH.fn] at h
 by_cases h1:b < 1
 ·rw[decide_eq_true h1];rwa [if_pos h1] at h
 ·rw[decide_eq_false h1]
  rw[if_neg h1] at h
  have hb:-9223372036854775807≤a / b∧a / b≤9223372036854775807:=Zp0 (b:=b) (by omega) hp.1 hp.2
  have hf:=Ziq (a:=a) (b:=b) (by omega)
  have hq:Zm IntKind.i64 (a.tdiv b):=by
   by_cases h2:a.tmod b < 0
   ·have h5:=(hf.1 h2).1
    have ha:a < 0:=Int.not_le.1 fun h=>by have:=Int.tmod_nonneg b h;omega
    have:=Int.ediv_neg_of_neg_of_pos ha (show 0 < b by omega)
    exact⟨by omega,by omega⟩
   ·have:=(hf.2 h2).1;exact⟨by omega,by omega⟩
  refine⟨⟨by omega,hq⟩,by omega,?_⟩
  by_cases h2:a.tmod b < 0
  ·rw[decide_eq_true h2]
   have:=(hf.1 h2).1
   rw[← this] at h
   exact⟨⟨by omega,by omega⟩,h⟩
  ·rw[decide_eq_false h2]
   rw[← (hf.2 h2).1] at h
   exact h
theorem ZaH.spec(a b:Int)(hp:ZaH.pre (a,b,())):ZaH.wp a b (fun r=>r=ZaH.fn (a,b,())):=ZoV (Q:=fun r=>r=ZaH.fn (a,b,())) hp rfl
theorem ZaA.spec(a b:Int)(hp:ZaA.pre (a,b,())):ZaA.wp a b (fun r=>r=ZaA.fn (a,b,())):=ZoV (Q:=fun r=>r=ZaA.fn (a,b,())) hp rfl
theorem ZuK{a b:Int}(hp:Zbq.pre (a,b,())){Q:Int×Int→Prop}(h:Q (Zbq.fn (a,b,()))):cond (decide (b < (1:Int))) (Q ((0:Int),(1:Int))) (b≠(0:Int)∧cond (decide (Int.tmod a b < (0:Int))) (Zm IntKind.i64 (Int.tmod a b+b)∧Q ((Int.tmod a b+b),(0:Int))) (Q (Int.tmod a b,(0:Int)))):=by
 simp only[Zbq.fn] at h
 have hp:b≤9223372036854775807:=hp
 by_cases h1:b < 1
 ·rw[decide_eq_true h1];rwa [if_pos h1] at h
 ·rw[decide_eq_false h1]
  rw[if_neg h1] at h
  have hf:=Ziq (a:=a) (b:=b) (by omega)
  have h3:=Int.emod_nonneg a (show b≠0 by omega)
  have h4:=Int.emod_lt_of_pos a (show 0 < b by omega)
  refine⟨by omega,?_⟩
  by_cases h2:a.tmod b < 0
  ·rw[decide_eq_true h2]
   have:=(hf.1 h2).2
   rw[← this] at h
   exact⟨⟨by omega,by omega⟩,h⟩
  ·rw[decide_eq_false h2]
   rw[← (hf.2 h2).2] at h
   exact h
theorem Zbq.spec(a b:Int)(hp:Zbq.pre (a,b,())):Zbq.wp a b (fun r=>r=Zbq.fn (a,b,())):=ZuK (Q:=fun r=>r=Zbq.fn (a,b,())) hp rfl
theorem ZaQ.spec(a b:Int)(hp:ZaQ.pre (a,b,())):ZaQ.wp a b (fun r=>r=ZaQ.fn (a,b,())):=ZuK (Q:=fun r=>r=ZaQ.fn (a,b,())) hp rfl
theorem Zbf.spec(l:List Int)(hl:l.length≤9223372036854775807)(hp:Zbf.pre (l,())):Zbf.wp l (fun r=>r=Zbf.fn (l,())):=by
 have e:=ZiG hp 0
 have hle:Zbi l≤9223372036854775807:=Zld hp
 refine Lp.foldl l 0 (fun g n=>ZaS.fn (g,n,())) 0 hl (fun i t R hi hi' hf ht hR=>?_) (fun R=>?_)
 ·simp only[decide_eq_true hi',Int.toNat_natCast]
  refine⟨⟨by omega,hi'⟩,?_⟩
  have hn:=hp _ (Zi (d:=0) hi)
  have h0:0≤t:=by
   have:=ZiG (l:=l.take i) (fun m hm=>hp m (List.mem_of_mem_take hm)) 0
   rw[ht,show (0:Int)=((0:Nat):Int) from rfl,this];omega
  rw[ZaS.fn_eq _ _ h0 hn.1 hn.2] at hR
  show Lp _ (Zbw.fn (l.getD i 0,()),t)
  rw[Zr6 hn.1 hn.2]
  revert hR
  generalize (l.getD i 0).natAbs=m
  intro hR
  refine Lp.wf (fun y=>0≤y.1∧0≤y.2∧Nat.gcd y.2.toNat y.1.toNat=Nat.gcd t.toNat m) (fun y=>y.1.toNat) (fun y hy R2 hR2=>?_) ⟨by simp,h0,by simp⟩
  obtain⟨b',a'⟩:=y
  obtain⟨h1,h2,h3⟩:=hy
  simp only at h1 h2 h3 ⊢
  by_cases hz:b'=0
  ·subst hz
   simp only[bne_self_eq_false,cond_false]
   refine⟨hf,?_⟩
   rw[← h3] at hR
   simp only[Int.toNat_zero,Nat.gcd_zero_right,Int.toNat_of_nonneg h2] at hR
   exact hR
  ·rw[bne_iff_ne.2 hz]
   have hlt:=Int.tmod_lt_of_pos a' (show 0 < b' by omega)
   have h0':=Int.tmod_nonneg b' h2
   exact⟨hz,hR2 _ ⟨h0',h1,by rw[Zpi h2 (by omega)];exact h3⟩ (by show (a'.tmod b').toNat < b'.toNat;omega)⟩
 ·simp only[Int.lt_irrefl,decide_false,cond_false]
  have e':l.foldl (fun g n=>ZaS.fn (g,n,())) 0=(Zbi l:Int):=e
  rw[e']
  have:((Zbi l:Int) == 9223372036854775808)=false:=by
   rw[beq_eq_false_iff_ne];omega
  rw[this]
  exact⟨⟨by omega,by omega⟩,rfl⟩
def ZeD(n:Int):Prop:=-2305843009213693952≤n∧n≤2305843009213693952
def linB(l:Lin):Prop:=l.1.length≤1048576∧(∀ n∈l.1,ZeD n)∧ZeD l.2
def Zqa(c:Zc):Prop:=c.1=0∨c.1=1∨(c.1=2∧1≤c.2.1∧c.2.1≤2305843009213693952)
def condB(c:Zc):Prop:=Zqa c∧linB c.2.2
def Zay(p:List Zc):Prop:=p.length≤1048576∧∀ c∈p,condB c
def Zc1(b:Bool):Zc×Int:=(Za,if b then 1 else -1)
def geF(c:Zc):Zc×Int:=if Zbi c.2.2.1=0 then Zc1 (decide (0≤c.2.2.2)) else ((0,0,c.2.2.1.map (·.tdiv (Zbi c.2.2.1)),c.2.2.2 / (Zbi c.2.2.1:Int)),0)
def Za7:List Int→Bool
 | []=>false
 | n::l=>if n=0 then Za7 l else decide (n < 0)
def Zbv(c:Zc):Int:=if Za7 c.2.2.1 then -(Zbi c.2.2.1:Int) else (Zbi c.2.2.1:Int)
def eqF(c:Zc):Zc×Int:=if Zbi c.2.2.1=0∨c.2.2.2.tmod (Zbi c.2.2.1)≠0 then Zc1 (decide (Zbi c.2.2.1=0)&&(c.2.2.2 == 0)) else ((1,0,c.2.2.1.map (·.tdiv (Zbv c)),c.2.2.2.tdiv (Zbv c)),0)
def Zcr(c:Zc):Nat:=Zbi (c.2.1::c.2.2.1.map (· % c.2.1))
def Zk6(c:Zc):Zc×Int:=if (c.2.2.2 % c.2.1).tmod (Zcr c)≠0 then Zc1 false else if c.2.1=Zcr c then Zc1 true else ((2,c.2.1.tdiv (Zcr c),(c.2.2.1.map (· % c.2.1)).map (·.tdiv (Zcr c)),(c.2.2.2 % c.2.1).tdiv (Zcr c)),0)
def ZbF(c:Zc):Zc×Int:=if c.1=0 then geF c else if c.1=1 then eqF c else Zk6 c
abbrev ZB.fn(x:Zc×Int×Unit):List Int:=x.1.2.2.1.map (·.tdiv x.2.1)
abbrev ZB.pre(x:Zc×Int×Unit):Prop:=x.2.1≠0∧x.1.2.2.1.length≤1048576∧Zdd x.1.2.2.1
abbrev Za5.fn(x:Bool×Unit):Zc×Int:=Zc1 x.1
abbrev ZaU.fn(x:Bool×Unit):Zc×Int:=Zc1 x.1
abbrev Z0.fn(x:Zc×Unit):Zc×Int:=geF x.1
abbrev Z0.pre(x:Zc×Unit):Prop:=linB x.1.2.2
abbrev ZZ.fn(x:Zc×Unit):Zc×Int:=eqF x.1
abbrev ZZ.pre(x:Zc×Unit):Prop:=linB x.1.2.2
abbrev ZR.fn(x:Zc×Unit):Zc×Int:=Zk6 x.1
abbrev ZR.pre(x:Zc×Unit):Prop:=linB x.1.2.2∧1≤x.1.2.1∧x.1.2.1≤2305843009213693952
abbrev ZW.fn(x:Zc×Unit):Zc×Int:=ZbF x.1
abbrev ZW.pre(x:Zc×Unit):Prop:=condB x.1
def Zdo(c:Zc):Zc×Int×Int:=if (ZbF c).2=0∧Zd (ZbF c).1=false then (Za,0,3) else ((ZbF c).1,(ZbF c).2,0)
abbrev ZaD.fn(x:Zc×Unit):Zc×Int×Int:=Zdo x.1
abbrev ZaD.pre(x:Zc×Unit):Prop:=condB x.1
def ZqL(l:Lin)(k:Int):Lin:=(l.1.map (fun n=>-n),k - l.2)
abbrev Z5.fn(x:Lin×Int×Unit):Lin:=ZqL x.1 x.2.1
abbrev Z5.pre(x:Lin×Int×Unit):Prop:=linB x.1∧ZeD x.2.1
def ZaW(c:Zc):List Zc:=if c.1=0 then [(0,0,ZqL c.2.2 (-1))] else if c.1=1 then [(0,0,c.2.2.1,c.2.2.2 - 1),(0,0,ZqL c.2.2 (-1))] else
 (List.range (c.2.1 - 1).toNat).map fun (r:Nat)=>((2,c.2.1,c.2.2.1,c.2.2.2 - ((r:Int)+1)):Zc)
abbrev Zap.fn(x:Zc×Unit):List Zc:=ZaW x.1
abbrev Zap.pre(x:Zc×Unit):Prop:=Zd x.1=true
def Zcy(n:Nat)(out:List Zc)(o:Zc):Option (List Zc) :=
 if (Zdo o).2.2≠0 then none else if 0 < (Zdo o).2.1 then some (out++[(0,0,List.replicate n 0,0)]) else if (Zdo o).2.1 < 0 then some out else some (out++[(Zdo o).1])
def Zgo(c:Zc):List Zc×Int:=if Zd c=false then ([],1) else match (ZaW c).foldlM (Zcy c.2.2.1.length) [] with
 | none=>([],3)
 | some out=>if 400 < out.length then ([],3) else (out,0)
abbrev ZaX.fn(x:Zc×Unit):List Zc×Int:=Zgo x.1
def ZhJ(a b:Int):Int:=if a < b then -1 else if b < a then 1 else 0
def Zdl:List Int→List Int→Int
 | [],[]=>0
 | [],_::_=>-1
 | _::_,[]=>1
 | x::a,y::b=>if ZhJ x y=0 then Zdl a b else ZhJ x y
def orL:List Int→Int
 | []=>0
 | n::l=>if n=0 then orL l else n
def Zcz(k:Int):Int:=if k=0 then 1 else if k=1 then 0 else 2
def Zh3(a b:Zc):Int:=orL [ZhJ (Zcz a.1) (Zcz b.1),ZhJ a.2.1 b.2.1,Zdl a.2.2.1 b.2.2.1,ZhJ a.2.2.2 b.2.2.2]
abbrev Zan.fn(x:Int×Unit):Bool:=false
abbrev ZI.fn(x:Int×Int×Unit):Int:=ZhJ x.1 x.2.1
abbrev ZbA.fn(x:List Int×Unit):Int:=orL x.1
abbrev Zx.fn(x:List Int×List Int×Unit):Int:=Zdl x.1 x.2.1
def ZgB(k:Int):Prop:=k=0∨k=1∨k=2
abbrev ZaE.fn(x:Zc×Zc×Unit):Int:=Zh3 x.1 x.2.1
abbrev ZaE.pre(x:Zc×Zc×Unit):Prop:=ZgB x.1.1∧ZgB x.2.1.1
abbrev Zbm.fn(x:Zc×Unit):Bool:=!Zd x.1
abbrev Zaz.fn(x:Zc×Zc×Unit):Bool:=Zh3 x.1 x.2.1 == 0
abbrev Zaz.pre(x:Zc×Zc×Unit):Prop:=ZgB x.1.1∧ZgB x.2.1.1
def ZpT{α:Type}(f:α→Bool):List α→Int→Int
 | [],_=>-1
 | x::l,i=>if f x then i else ZpT f l (i+1)
abbrev Zk.fn(x:List Zc×((Zc→Prop)×(Zc→Bool))×Unit):Int:=ZpT x.2.1.2 x.1 0
abbrev Zk.pre(x:List Zc×((Zc→Prop)×(Zc→Bool))×Unit):Prop:=∀ c∈x.1,x.2.1.1 c
abbrev Zg.fn(x:List Zc×((Zc→Prop)×(Zc→Bool))×Unit):Bool:=x.1.any x.2.1.2
abbrev Zg.pre(x:List Zc×((Zc→Prop)×(Zc→Bool))×Unit):Prop:=∀ c∈x.1,x.2.1.1 c
def ZB.wp(x0:Zc)(x1:Int)(Q:(List Int)→Prop):Prop:=(((0:Int)≤((List.length x0.2.2.1:Nat):Int)∧(((List.length x0.2.2.1:Nat):Int)≤((List.length x0.2.2.1:Nat):Int)∧((((List.length x0.2.2.1:Nat):Int)*((8:Nat):Int))≤(140737488355328:Int)∧((List.length x0.2.2.1:Nat):Int)≤(9223372036854775807:Int))))∧Lp (σ:=Int×List Int) (fun y3 R3=>let v2:=List.getD x0.2.2.1 (Int.toNat y3.1) (0:Int);cond (decide (y3.1 < ((List.length x0.2.2.1:Nat):Int))) (((0:Int)≤y3.1∧y3.1 < ((List.length x0.2.2.1:Nat):Int))∧((x1≠(0:Int)∧Zm IntKind.i64 (Int.tdiv v2 x1))∧(((0:Int)≤y3.1∧y3.1 < ((List.length y3.2:Nat):Int))∧(Int.toNat y3.1 < List.length y3.2∧(Zm IntKind.i64 (y3.1+(1:Int))∧R3 ((y3.1+(1:Int)),(List.set y3.2 (Int.toNat y3.1) (Int.tdiv v2 x1)))))))) (Q y3.2)) ((0:Int),(List.replicate (Int.toNat ((List.length x0.2.2.1:Nat):Int)) (0:Int))))
def Za5.wp(x0:Bool)(Q:Zc×Int→Prop):Prop:=cond x0 (Q (Za,(1:Int))) (Q (Za,(-(1:Int))))
def Z0.wp(x0:Zc)(Q:Zc×Int→Prop):Prop:=let v0:=Zbt.fn (x0.2.2.1,());(Zbt.pre (x0.2.2.1,())∧cond (v0.1 == (0:Int)) (Q (Za5.fn (decide ((0:Int)≤x0.2.2.2),()))) (ZaH.pre (x0.2.2.2,(v0.1,()))∧(ZB.pre (x0,(v0.1,()))∧Q (((0:Int),((0:Int),((ZB.fn (x0,(v0.1,()))),(ZaH.fn (x0.2.2.2,(v0.1,()))).1))),(0:Int)))))
def ZZ.wp(x0:Zc)(Q:Zc×Int→Prop):Prop:=let v0:=Zbt.fn (x0.2.2.1,());let v3:=Int.tdiv x0.2.2.2 (-v0.1);let v5:=ZB.fn (x0,(v0.1,()));(Zbt.pre (x0.2.2.1,())∧(((!(v0.1 == (0:Int)))=true→((!(v0.1 == (0:Int)))=true∧True))∧(((!(v0.1 == (0:Int)))=true→((!(v0.1 == (0:Int)))=true∧True))∧(((!(v0.1 == (0:Int)))=true→((!(v0.1 == (0:Int)))=true∧True))∧(((!(v0.1 == (0:Int)))=true→((!(v0.1 == (0:Int)))=true∧((!(v0.1 == (0:Int)))=true∧v0.1≠(0:Int))))∧(((!(v0.1 == (0:Int)))=true→((!(v0.1 == (0:Int)))=true∧True))∧(((v0.1 == (0:Int))=false→(!(v0.1 == (0:Int)))=true)∧cond ((v0.1 == (0:Int))||(Int.tmod x0.2.2.2 v0.1 != (0:Int))) (((v0.1 == (0:Int))=true→((v0.1 == (0:Int))=true∧True))∧(((v0.1 == (0:Int))=true→((v0.1 == (0:Int))=true∧True))∧(((v0.1 == (0:Int))=true→((v0.1 == (0:Int))=true∧True))∧(((v0.1 == (0:Int))=true→((v0.1 == (0:Int))=true∧True))∧(((v0.1 == (0:Int))=true→(v0.1 == (0:Int))=true)∧Q (Za5.fn (((v0.1 == (0:Int))&&(x0.2.2.2 == (0:Int))),()))))))) (Lp (σ:=Int) (fun y2 R2=>let v2:=List.getD x0.2.2.1 (Int.toNat y2) (0:Int);cond (decide (y2 < ((List.length x0.2.2.1:Nat):Int))) (((0:Int)≤y2∧y2 < ((List.length x0.2.2.1:Nat):Int))∧cond (v2 != (0:Int)) (cond (decide (v2 < (0:Int))) (Zm IntKind.i64 (-v0.1)∧(ZB.pre (x0,((-v0.1),()))∧(((-v0.1)≠(0:Int)∧Zm IntKind.i64 v3)∧Q (((1:Int),((0:Int),((ZB.fn (x0,((-v0.1),()))),v3))),(0:Int))))) (ZB.pre (x0,(v0.1,()))∧((v0.1≠(0:Int)∧Zm IntKind.i64 (Int.tdiv x0.2.2.2 v0.1))∧Q (((1:Int),((0:Int),(v5,Int.tdiv x0.2.2.2 v0.1))),(0:Int))))) (Zm IntKind.i64 (y2+(1:Int))∧R2 (y2+(1:Int)))) (ZB.pre (x0,(v0.1,()))∧((v0.1≠(0:Int)∧Zm IntKind.i64 (Int.tdiv x0.2.2.2 v0.1))∧Q (((1:Int),((0:Int),(v5,Int.tdiv x0.2.2.2 v0.1))),(0:Int))))) (0:Int)))))))))
def ZR.wp(x0:Zc)(Q:Zc×Int→Prop):Prop:=let v7:=Zbq.fn (x0.2.2.2,(x0.2.1,()));(((0:Int)≤((List.length x0.2.2.1:Nat):Int)∧(((List.length x0.2.2.1:Nat):Int)≤((List.length x0.2.2.1:Nat):Int)∧((((List.length x0.2.2.1:Nat):Int)*((8:Nat):Int))≤(140737488355328:Int)∧((List.length x0.2.2.1:Nat):Int)≤(9223372036854775807:Int))))∧Lp (σ:=Int×Int×List Int) (fun y2 R2=>let v2:=List.getD x0.2.2.1 (Int.toNat y2.1) (0:Int);let v4:=List.set y2.2.2 (Int.toNat y2.1) (Zbq.fn (v2,(x0.2.1,()))).1;let v5:=List.getD v4 (Int.toNat y2.1) (0:Int);cond (decide (y2.1 < ((List.length x0.2.2.1:Nat):Int))) (((0:Int)≤y2.1∧y2.1 < ((List.length x0.2.2.1:Nat):Int))∧(Zbq.pre (v2,(x0.2.1,()))∧(((0:Int)≤y2.1∧y2.1 < ((List.length y2.2.2:Nat):Int))∧(Int.toNat y2.1 < List.length y2.2.2∧(((0:Int)≤y2.1∧y2.1 < ((List.length v4:Nat):Int))∧(Int.toNat y2.1 < List.length v4∧(Zbt.pre ([y2.2.1,v5],())∧(Zm IntKind.i64 (y2.1+(1:Int))∧R2 ((y2.1+(1:Int)),((Zbt.fn ([y2.2.1,v5],())).1,v4)))))))))) (Zbq.pre (x0.2.2.2,(x0.2.1,()))∧(y2.2.1≠(0:Int)∧cond (Int.tmod v7.1 y2.2.1 != (0:Int)) (Q (Za5.fn (false,()))) (cond (x0.2.1 == y2.2.1) (Q ((((Za5.fn (true,())).1).1,((((Za5.fn (true,())).1).2).1,((((Za5.fn (true,())).1).2).2))),(Za5.fn (true,())).2)) (ZB.pre (((0:Int),((0:Int),(y2.2.2,v7.1))),(y2.2.1,()))∧((y2.2.1≠(0:Int)∧Zm IntKind.i64 (Int.tdiv v7.1 y2.2.1))∧((y2.2.1≠(0:Int)∧Zm IntKind.i64 (Int.tdiv x0.2.1 y2.2.1))∧Q (((2:Int),(Int.tdiv x0.2.1 y2.2.1,((ZB.fn (((0:Int),((0:Int),(y2.2.2,v7.1))),(y2.2.1,()))),Int.tdiv v7.1 y2.2.1))),(0:Int))))))))) ((0:Int),(x0.2.1,(List.replicate (Int.toNat ((List.length x0.2.2.1:Nat):Int)) (0:Int)))))
def ZW.wp(x0:Zc)(Q:Zc×Int→Prop):Prop:=cond (decide (x0.1=(0:Int))) (Z0.pre (((0:Int),x0.2),())∧Q (Z0.fn (((0:Int),x0.2),()))) (cond (decide (x0.1=(1:Int))) (ZZ.pre (((1:Int),x0.2),())∧Q (ZZ.fn (((1:Int),x0.2),()))) (cond (decide (x0.1=(2:Int))) (ZR.pre (((2:Int),x0.2),())∧Q (ZR.fn (((2:Int),x0.2),()))) False))
def ZaD.wp(x0:Zc)(Q:Zc×Int×Int→Prop):Prop:=(ZW.pre (x0,())∧((((ZW.fn (x0,())).2 == (0:Int))=true→(((ZW.fn (x0,())).2 == (0:Int))=true∧True))∧((((ZW.fn (x0,())).2 == (0:Int))=true→(((ZW.fn (x0,())).2 == (0:Int))=true∧True))∧((((ZW.fn (x0,())).2 == (0:Int))=true→((ZW.fn (x0,())).2 == (0:Int))=true)∧cond (((ZW.fn (x0,())).2 == (0:Int))&&(!(ZE.fn ((((ZW.fn (x0,())).1).1,((((ZW.fn (x0,())).1).2).1,((((ZW.fn (x0,())).1).2).2))),())))) (Q (Za,((0:Int),(3:Int)))) (Q ((((ZW.fn (x0,())).1).1,((((ZW.fn (x0,())).1).2).1,((((ZW.fn (x0,())).1).2).2))),((ZW.fn (x0,())).2,(0:Int))))))))
def Z5.wp(x0:Lin)(x1:Int)(Q:Lin→Prop):Prop:=(((0:Int)≤((List.length x0.1:Nat):Int)∧(((List.length x0.1:Nat):Int)≤((List.length x0.1:Nat):Int)∧((((List.length x0.1:Nat):Int)*((8:Nat):Int))≤(140737488355328:Int)∧((List.length x0.1:Nat):Int)≤(9223372036854775807:Int))))∧(Zm IntKind.i64 (x1 - x0.2)∧Lp (σ:=Int×List Int) (fun y3 R3=>let v2:=List.getD x0.1 (Int.toNat y3.1) (0:Int);cond (decide (y3.1 < ((List.length x0.1:Nat):Int))) (((0:Int)≤y3.1∧y3.1 < ((List.length x0.1:Nat):Int))∧(Zm IntKind.i64 (-v2)∧(((0:Int)≤y3.1∧y3.1 < ((List.length y3.2:Nat):Int))∧(Int.toNat y3.1 < List.length y3.2∧(Zm IntKind.i64 (y3.1+(1:Int))∧R3 ((y3.1+(1:Int)),(List.set y3.2 (Int.toNat y3.1) (-v2)))))))) (Q (y3.2,(x1 - x0.2)))) ((0:Int),(List.replicate (Int.toNat ((List.length x0.1:Nat):Int)) (0:Int)))))
def Zap.wp(x0:Zc)(Q:(List Zc)→Prop):Prop:=let v0:=Z5.fn (x0.2.2,((-(1:Int)),()));(Z5.pre (x0.2.2,((-(1:Int)),()))∧cond (x0.1 == (0:Int)) (Q ([((0:Int),((0:Int),v0))])) (cond (x0.1 == (1:Int)) (Zm IntKind.i64 (x0.2.2.2 - (1:Int))∧Q ([((0:Int),((0:Int),(x0.2.2.1,(x0.2.2.2 - (1:Int))))),((0:Int),((0:Int),v0))])) (Lp (σ:=Int×List (Zc)) (fun y2 R2=>let v3:=[((2:Int),(x0.2.1,(x0.2.2.1,(x0.2.2.2 - y2.1))))];cond (decide (y2.1 < x0.2.1)) (Zm IntKind.i64 (x0.2.2.2 - y2.1)∧((((List.length y2.2+List.length v3)*48)≤140737488355328∧(List.length y2.2+List.length v3)≤9223372036854775807)∧(Zm IntKind.i64 (y2.1+(1:Int))∧R2 ((y2.1+(1:Int)),(y2.2++v3))))) (Q y2.2)) ((1:Int),([]:List (Zc))))))
def ZaX.wp(x0:Zc)(Q:(List Zc)×Int→Prop):Prop:=let v0:=List.length (Zap.fn (x0,()));let v4:=[((0:Int),((0:Int),((List.replicate (Int.toNat ((List.length x0.2.2.1:Nat):Int)) (0:Int)),(0:Int))))];cond (!(ZE.fn (x0,()))) (Q (([]:List (Zc)),(1:Int))) (Zap.pre (x0,())∧Lp (σ:=Int×List (Zc)) (fun y2 R2=>let v1:=List.getD (Zap.fn (x0,())) (Int.toNat y2.1) Za;let v5:=[(((ZaD.fn (v1,())).1).1,((((ZaD.fn (v1,())).1).2).1,((((ZaD.fn (v1,())).1).2).2)))];cond (decide (y2.1 < ((v0:Nat):Int))) (((0:Int)≤y2.1∧y2.1 < ((v0:Nat):Int))∧(ZaD.pre (v1,())∧cond (((ZaD.fn (v1,())).2).2 != (0:Int)) (Q (([]:List (Zc)),((ZaD.fn (v1,())).2).2)) (cond (decide ((0:Int) < ((ZaD.fn (v1,())).2).1)) (((0:Int)≤((List.length x0.2.2.1:Nat):Int)∧(((List.length x0.2.2.1:Nat):Int)≤((List.length x0.2.2.1:Nat):Int)∧((((List.length x0.2.2.1:Nat):Int)*((8:Nat):Int))≤(140737488355328:Int)∧((List.length x0.2.2.1:Nat):Int)≤(9223372036854775807:Int))))∧((((List.length y2.2+List.length v4)*48)≤140737488355328∧(List.length y2.2+List.length v4)≤9223372036854775807)∧(Zm IntKind.i64 (y2.1+(1:Int))∧R2 ((y2.1+(1:Int)),(y2.2++v4))))) (cond (decide (((ZaD.fn (v1,())).2).1 < (0:Int))) (Zm IntKind.i64 (y2.1+(1:Int))∧R2 ((y2.1+(1:Int)),y2.2)) ((((List.length y2.2+List.length v5)*48)≤140737488355328∧(List.length y2.2+List.length v5)≤9223372036854775807)∧(Zm IntKind.i64 (y2.1+(1:Int))∧R2 ((y2.1+(1:Int)),(y2.2++v5)))))))) (cond (decide ((400:Int) < ((List.length y2.2:Nat):Int))) (Q (([]:List (Zc)),(3:Int))) (Q (y2.2,(0:Int))))) ((0:Int),([]:List (Zc))))
def Zan.wp(x0:Int)(Q:Bool→Prop):Prop:=Q (x0 != x0)
def ZI.wp(x0:Int)(x1:Int)(Q:Int→Prop):Prop:=let v1:=Zan.fn (x1,());cond (Zan.fn (x0,())) (cond v1 (Q (0:Int)) (Q (-(1:Int)))) (cond v1 (Q (1:Int)) (cond (decide (x0 < x1)) (Q (-(1:Int))) (cond (decide (x1 < x0)) (Q (1:Int)) (Q (0:Int)))))
def ZbA.wp(x0:List Int)(Q:Int→Prop):Prop:=Lp (σ:=Int) (fun y2 R2=>let v0:=List.getD x0 (Int.toNat y2) (0:Int);cond (decide (y2 < ((List.length x0:Nat):Int))) (((0:Int)≤y2∧y2 < ((List.length x0:Nat):Int))∧cond (v0 != (0:Int)) (Q v0) (Zm IntKind.i64 (y2+(1:Int))∧R2 (y2+(1:Int)))) (Q (0:Int))) (0:Int)
def Zx.wp(x0:List Int)(x1:List Int)(Q:Int→Prop):Prop:=Lp (σ:=Int) (fun y3 R3=>let v2:=ZI.fn ((List.getD x0 (Int.toNat y3) (0:Int)),((List.getD x1 (Int.toNat y3) (0:Int)),()));cond (decide (y3 < ((List.length x0:Nat):Int))) (((0:Int)≤y3∧y3 < ((List.length x0:Nat):Int))∧cond (decide (((List.length x1:Nat):Int)≤y3)) (Q (1:Int)) (((0:Int)≤y3∧y3 < ((List.length x1:Nat):Int))∧cond (v2 != (0:Int)) (Q v2) (Zm IntKind.i64 (y3+(1:Int))∧R3 (y3+(1:Int))))) (cond (decide (((List.length x0:Nat):Int) < ((List.length x1:Nat):Int))) (Q (-(1:Int))) (Q (0:Int)))) (0:Int)
def ZaE.wp(x0:Zc)(x1:Zc)(Q:Int→Prop):Prop:=let v1:=[(1:Int),(0:Int),(2:Int)];(3=List.length (List.replicate 3 (0:Int))∧(((0:Int)≤x0.1∧x0.1 < ((3:Nat):Int))∧(Int.toNat x0.1 < List.length v1∧(((0:Int)≤x1.1∧x1.1 < ((3:Nat):Int))∧(Int.toNat x1.1 < List.length v1∧Q (ZbA.fn ([(ZI.fn ((List.getD v1 (Int.toNat x0.1) (0:Int)),((List.getD v1 (Int.toNat x1.1) (0:Int)),()))),(ZI.fn (x0.2.1,(x1.2.1,()))),(Zx.fn (x0.2.2.1,(x1.2.2.1,()))),(ZI.fn (x0.2.2.2,(x1.2.2.2,())))],())))))))
def Zbm.wp(x0:Zc)(Q:Bool→Prop):Prop:=Q (!(ZE.fn (x0,())))
def Zaz.wp(x0:Zc)(x1:Zc)(Q:Bool→Prop):Prop:=(ZaE.pre (x0,(x1,()))∧Q ((ZaE.fn (x0,(x1,()))) == (0:Int)))
def Zk.wp(x0:List Zc)(x1:(Zc→Prop)×(Zc→Bool))(Q:Int→Prop):Prop:=Lp (σ:=Int) (fun y3 R3=>let v0:=List.getD x0 (Int.toNat y3) Za;cond (decide (y3 < ((List.length x0:Nat):Int))) (((0:Int)≤y3∧y3 < ((List.length x0:Nat):Int))∧(x1.1 v0∧cond (x1.2 v0) (Q y3) (Zm IntKind.i64 (y3+(1:Int))∧R3 (y3+(1:Int))))) (Q (-(1:Int)))) (0:Int)
def Zg.wp(x0:List Zc)(x1:(Zc→Prop)×(Zc→Bool))(Q:Bool→Prop):Prop:=(Zk.pre (x0,((fun (a3:Zc)=>x1.1 a3,fun (a3:Zc)=>x1.2 a3),()))∧Q (decide ((0:Int)≤(Zk.fn (x0,((fun (a3:Zc)=>x1.1 a3,fun (a3:Zc)=>x1.2 a3),()))))))
theorem linB.ints{l:Lin}(h:linB l):Zdd l.1:=fun n hn=>by have:=h.2.1 n hn;unfold ZeD at this;omega
theorem ZcY(n g:Int):(n.tdiv g).natAbs≤n.natAbs:=by rw[Int.natAbs_tdiv];exact Nat.div_le_self _ _
theorem Zc4{n g:Int}(h:-9223372036854775807≤n)(h2:n≤9223372036854775807):Zm .i64 (n.tdiv g):=by
 have:=ZcY n g
 exact⟨by omega,by omega⟩
theorem ZB.spec(c:Zc)(g:Int)(hp:ZB.pre (c,g,())):ZB.wp c g (fun r=>r=ZB.fn (c,g,())):=by
 obtain⟨h1,h2,h3⟩:=hp
 simp only at h1 h2 h3
 simp only[ZB.wp,Int.toNat_natCast]
 refine⟨⟨by omega,by omega,by omega,by omega⟩,?_⟩
 refine Lp.fill c.2.2.1 0 0 (·.tdiv g) (by omega) (fun i out R hi hi' hf ho hR=>?_) (fun R=>?_)
 ·simp only[decide_eq_true hi',Int.toNat_natCast]
  have hn:=h3 _ (Zi (d:=0) hi)
  exact⟨⟨by omega,hi'⟩,⟨h1,Zc4 hn.1 hn.2⟩,⟨by omega,by omega⟩,by omega,hf,hR⟩
 ·simp only[Int.lt_irrefl,decide_false,cond_false]
theorem Za5.spec(b:Bool):Za5.wp b (fun r=>r=Za5.fn (b,())):=by cases b<;>rfl
theorem ZgD:∀ {l:List Int} {g:Nat},(l.foldl (fun g n=>Nat.gcd g n.natAbs) g ∣ g)∧∀ n∈l,l.foldl (fun g n=>Nat.gcd g n.natAbs) g ∣ n.natAbs
 | [],g=>⟨Nat.dvd_refl _,fun n hn=>by cases hn⟩
 | m::l,g=>by
   obtain⟨h1,h2⟩:=ZgD (l:=l) (g:=Nat.gcd g m.natAbs)
   refine⟨Nat.dvd_trans h1 (Nat.gcd_dvd_left _ _),fun n hn=>?_⟩
   rcases List.mem_cons.1 hn with rfl | hn
   ·exact Nat.dvd_trans h1 (Nat.gcd_dvd_right _ _)
   ·exact h2 n hn
theorem Zje{l:List Int}(h:Zbi l=0):∀ n∈l,n=0:=fun n hn=>by
 have:=(ZgD (l:=l) (g:=0)).2 n hn
 have h':l.foldl (fun g n=>Nat.gcd g n.natAbs) 0=0:=h
 rw[h',Nat.zero_dvd] at this
 omega
theorem Z0.spec(c:Zc)(hp:Z0.pre (c,())):Z0.wp c (fun r=>r=Z0.fn (c,())):=by
 have hb:linB c.2.2:=hp
 obtain⟨h1,h2,h3⟩:=id hb
 unfold ZeD at h3
 simp only[Z0.wp,Zbt.fn,Z0.fn,geF,Za5.fn]
 refine⟨hb.ints,?_⟩
 by_cases hg:Zbi c.2.2.1=0
 ·rw[hg];simp
 ·rw[beq_eq_false_iff_ne.2 (show ((Zbi c.2.2.1:Nat):Int)≠0 by omega),if_neg hg]
  refine⟨⟨by show -9223372036854775807≤c.2.2.2;omega,by show c.2.2.2≤9223372036854775807;omega⟩,⟨by show ((Zbi c.2.2.1:Nat):Int)≠0;omega,h1,hb.ints⟩,?_⟩
  simp only[ZB.fn,ZaH.fn]
  rw[if_neg (show ¬ ((Zbi c.2.2.1:Nat):Int) < 1 by omega)]
theorem Zdj{l:List Int}{i:Nat}(h:∀ j,j < i→l.getD j 0=0):Za7 l=Za7 (l.drop i):=by
 induction i generalizing l with
 | zero=>rfl
 | succ i ih =>
   cases l with
   | nil=>rfl
   | cons n l =>
     have h0:=h 0 (by omega)
     simp at h0
     simp only[Za7,if_pos h0,List.drop_succ_cons]
     exact ih (fun j hj=>by have:=h (j+1) (by omega);simpa using this)
theorem ZZ.spec(c:Zc)(hp:ZZ.pre (c,())):ZZ.wp c (fun r=>r=ZZ.fn (c,())):=by
 have hb:linB c.2.2:=hp
 obtain⟨h1,h2,h3⟩:=id hb
 unfold ZeD at h3
 have hgl:Zbi c.2.2.1≤9223372036854775807:=Zld hb.ints
 simp only[ZZ.wp,Zbt.fn,Za5.fn,ZB.fn]
 have hg:∀ b:Bool,(b=true→b=true∧True):=fun b h=>⟨h,trivial⟩
 refine⟨hb.ints,hg _,hg _,hg _,?_,hg _,fun h=>by rw[h];rfl,?_⟩
 ·intro h
  refine⟨h,h,?_⟩
  intro e
  rw[e] at h;simp at h
 have hfn:ZZ.fn (c,())=eqF c:=rfl
 by_cases hz:Zbi c.2.2.1=0
 ·rw[hfn,eqF,if_pos (.inl hz),hz]
  simp
 ·have hzi:((Zbi c.2.2.1:Nat):Int)≠0:=by omega
  rw[beq_eq_false_iff_ne.2 hzi]
  by_cases hm:c.2.2.2.tmod (Zbi c.2.2.1)≠0
  ·rw[bne_iff_ne.2 hm,hfn,eqF,if_pos (.inr hm)]
   simp[hz]
  ·have hm':c.2.2.2.tmod (Zbi c.2.2.1)=0:=by simpa using hm
   rw[hm',bne_self_eq_false,Bool.or_false,cond_false,hfn,eqF,if_neg (by simp[hz,hm'])]
   have hby:∀ g:Int,g≠0→ZB.pre (c,g,()):=fun g hg=>⟨hg,h1,hb.ints⟩
   have hkf:∀ g:Int,Zm .i64 (c.2.2.2.tdiv g):=fun g=>Zc4 (by omega) (by omega)
   refine Lp.iter c.2.2.1.length (fun i y=>y=(i:Int)∧∀ j,j < i→c.2.2.1.getD j 0=0) ⟨rfl,fun j hj=>absurd hj (by omega)⟩ ?_
   rintro i y hle ⟨rfl,hi⟩ R hR
   by_cases e:i < c.2.2.1.length
   ·rw[decide_eq_true (show (i:Int) < (c.2.2.1.length:Int) by omega)]
    refine⟨⟨by omega,by omega⟩,?_⟩
    simp only[Int.toNat_natCast]
    by_cases hn:c.2.2.1.getD i 0=0
    ·simp only[hn,bne_self_eq_false,cond_false]
     refine⟨⟨by omega,by omega⟩,hR e _ ⟨by omega,fun j hj=>?_⟩⟩
     by_cases ej:j=i
     ·subst ej;exact hn
     ·exact hi j (by omega)
    ·simp only[bne_iff_ne.2 hn,cond_true]
     have hfn:Za7 c.2.2.1=decide (c.2.2.1.getD i 0 < 0):=by
      rw[Zdj hi,List.drop_eq_getElem_cons e]
      rw[ZN e] at hn
      simp only[Za7,if_neg hn,ZN e]
     by_cases hneg:c.2.2.1.getD i 0 < 0
     ·rw[decide_eq_true hneg] at hfn
      simp only[decide_eq_true hneg,cond_true]
      refine⟨⟨by omega,by omega⟩,hby _ (by omega),⟨by omega,hkf _⟩,?_⟩
      simp only[Zbv,hfn,if_true]
     ·rw[decide_eq_false hneg] at hfn
      simp only[decide_eq_false hneg,cond_false]
      refine⟨hby _ hzi,⟨hzi,hkf _⟩,?_⟩
      simp[Zbv,hfn]
   ·have:i=c.2.2.1.length:=by omega
    subst this
    rw[decide_eq_false (Int.lt_irrefl _)]
    refine⟨hby _ hzi,⟨hzi,hkf _⟩,?_⟩
    have hfn:Za7 c.2.2.1=false:=by rw[Zdj hi,List.drop_length];rfl
    simp[Zbv,hfn]
theorem Zy{α:Type}{l:List α}{i:Nat}(d:α)(h:i < l.length):l.take (i+1)=l.take i++[l.getD i d]:=by
 rw[ZN h];simp
theorem ZrS{α β:Type}{l:List α}{d:α}{z:β}{f:α→β}{i:Nat}(e:i < l.length):((l.take i).map f++List.replicate (l.length - i) z).set i (f (l.getD i d))=(l.take (i+1)).map f++List.replicate (l.length - (i+1)) z:=by
 have h1:l.length - i=(l.length - (i+1))+1:=by omega
 rw[h1,List.replicate_succ,List.set_append_right _ _ (by simp;omega)]
 have h3:i - ((l.take i).map f).length=0:=by simp;omega
 rw[h3,List.set_cons_zero,Zy d e,List.map_append,List.append_assoc]
 rfl
theorem ZhZ(m:Int)(l:List Int)(n:Int):Zbi (m::(l++[n]))=Nat.gcd (Zbi (m::l)) n.natAbs:=by
 simp only[Zbi,List.foldl_cons,List.foldl_append,List.foldl_nil]
theorem ZsV(a b:Int):Zbi [a,b]=Nat.gcd a.natAbs b.natAbs:=by simp[Zbi]
theorem Zgu{m:Int}(h:1≤m)(l:List Int):0 < Zbi (m::l):=by
 rcases Nat.eq_zero_or_pos (Zbi (m::l)) with h0 | h0
 ·have:=Zje h0 m (by simp);omega
 ·exact h0
theorem Zff{m:Int}(h:1≤m)(l:List Int):Zbi (m::l)≤m.toNat:=by
 have:=ZkI (l:=l) m.natAbs (by omega)
 simp only[Zbi,List.foldl_cons,Nat.gcd_zero_left]
 omega
theorem ZR.spec(c:Zc)(hp:ZR.pre (c,())):ZR.wp c (fun r=>r=ZR.fn (c,())):=by
 obtain⟨hb,hm1,hm2⟩:=hp
 simp only at hb hm1 hm2
 obtain⟨h1,h2,h3⟩:=id hb
 unfold ZeD at h3
 have hfn:ZR.fn (c,())=Zk6 c:=rfl
 simp only[ZR.wp,Int.toNat_natCast]
 refine⟨⟨by omega,by omega,by omega,by omega⟩,?_⟩
 have hmod:∀ n,Zbq.fn (n,c.2.1,())=(n % c.2.1,0):=fun n=>by
  simp only[Zbq.fn];rw[if_neg (by omega)]
 simp only[hmod]
 refine Lp.iter c.2.2.1.length (fun i y=>y=((i:Int),((Zbi (c.2.1::(c.2.2.1.take i).map (· % c.2.1)):Nat):Int),(c.2.2.1.take i).map (· % c.2.1)++List.replicate (c.2.2.1.length - i) 0)) ?_ ?_
 ·have:Zbi [c.2.1]=c.2.1.natAbs:=by simp[Zbi]
  simp[this];omega
 rintro i y hle rfl R hR
 have hr:∀ n:Int,0≤n % c.2.1∧n % c.2.1 < c.2.1:=fun n=>⟨Int.emod_nonneg _ (by omega),Int.emod_lt_of_pos _ (by omega)⟩
 have hgl:=Zff hm1 ((c.2.2.1.take i).map (· % c.2.1))
 by_cases e:i < c.2.2.1.length
 ·have hfs:=ZrS (z:=(0:Int)) (f:=(· % c.2.1)) (d:=(0:Int)) e
  simp only[decide_eq_true (show (i:Int) < (c.2.2.1.length:Int) by omega),Int.toNat_natCast,cond_true]
  rw[hfs]
  have hlen:((c.2.2.1.take (i+1)).map (· % c.2.1)++List.replicate (c.2.2.1.length - (i+1)) (0:Int)).length=c.2.2.1.length:=by simp;omega
  have hget:((c.2.2.1.take (i+1)).map (· % c.2.1)++List.replicate (c.2.2.1.length - (i+1)) (0:Int)).getD i 0=c.2.2.1.getD i 0 % c.2.1:=by
   rw[ZN (by rw[hlen];exact e),List.getElem_append_left (by simp;omega),ZN e]
   simp
  rw[hget]
  have hq:=hr (c.2.2.1.getD i 0)
  refine⟨⟨by omega,by omega⟩,by show c.2.1≤9223372036854775807;omega,⟨by omega,by simp;omega⟩,by simp;omega,⟨by omega,by rw[hlen];omega⟩,by rw[hlen];exact e,?_,⟨by omega,by omega⟩,hR e _ ?_⟩
  ·intro n hn
   simp only[List.mem_cons,List.not_mem_nil,or_false] at hn
   rcases hn with rfl | rfl<;>constructor<;>omega
  ·simp only[Zbt.fn,ZsV,Int.natAbs_natCast]
   rw[Zy 0 e,List.map_append,List.map_cons,List.map_nil,ZhZ]
   rfl
 ·have:i=c.2.2.1.length:=by omega
  subst this
  simp only[List.take_length,Nat.sub_self,List.replicate_zero,List.append_nil,Int.lt_irrefl,decide_false,cond_false]
  have hpos:=Zgu hm1 (c.2.2.1.map (· % c.2.1))
  rw[List.take_length] at hgl
  have hdg:Zcr c=Zbi (c.2.1::c.2.2.1.map (· % c.2.1)):=rfl
  rw[← hdg] at hpos hgl ⊢
  have hq:=hr c.2.2.2
  refine⟨by show c.2.1≤9223372036854775807;omega,by omega,?_⟩
  rw[hfn,Zk6]
  by_cases ht:(c.2.2.2 % c.2.1).tmod (Zcr c)≠0
  ·rw[bne_iff_ne.2 ht,if_pos ht];rfl
  ·rw[if_neg ht]
   have ht:(c.2.2.2 % c.2.1).tmod (Zcr c)=0:=by simpa using ht
   rw[ht,bne_self_eq_false]
   by_cases he:c.2.1=Zcr c
   ·rw[if_pos he]
    simp only[beq_iff_eq.2 he,cond_true,cond_false]
   ·rw[if_neg he,beq_eq_false_iff_ne.2 he]
    refine⟨⟨by show ((Zcr c:Nat):Int)≠0;omega,by simpa using h1,fun n hn=>?_⟩,⟨by omega,Zc4 (by omega) (by omega)⟩,⟨by omega,Zc4 (by omega) (by omega)⟩,rfl⟩
    simp only[List.mem_map] at hn
    obtain⟨a,_,rfl⟩:=hn
    have:=hr a
    constructor<;>omega
theorem ZW.spec(c:Zc)(hp:ZW.pre (c,())):ZW.wp c (fun r=>r=ZW.fn (c,())):=by
 obtain⟨hk,hl⟩:Zqa c∧linB c.2.2:=hp
 obtain⟨k,r⟩:=c
 simp only[ZW.wp,ZW.fn,ZbF,Z0.fn,ZZ.fn,ZR.fn]
 rcases hk with h | h | ⟨h,h2,h3⟩
 ·have h:k=0:=h
  subst h;exact⟨hl,rfl⟩
 ·have h:k=1:=h
  subst h;exact⟨hl,rfl⟩
 ·have h:k=2:=h
  subst h;exact⟨⟨hl,h2,h3⟩,rfl⟩
theorem ZaD.spec(c:Zc)(hp:ZaD.pre (c,())):ZaD.wp c (fun r=>r=ZaD.fn (c,())):=by
 simp only[ZaD.wp,ZW.fn,ZE.fn,ZaD.fn,Zdo]
 have hg:∀ b:Bool,(b=true→b=true∧True):=fun b h=>⟨h,trivial⟩
 refine⟨hp,hg _,hg _,fun h=>h,?_⟩
 by_cases h1:(ZbF c).2=0
 ·cases h2:Zd (ZbF c).1 with
  | true=>simp[h1]
  | false=>simp[h1]
 ·simp[h1]
theorem Z5.spec(l:Lin)(k:Int)(hp:Z5.pre (l,k,())):Z5.wp l k (fun r=>r=Z5.fn (l,k,())):=by
 obtain⟨⟨h1,h2,h3⟩,h4⟩:=hp
 simp only at h1 h2 h3 h4
 unfold ZeD at h3 h4
 simp only[Z5.wp,Int.toNat_natCast]
 refine⟨⟨by omega,by omega,by omega,by omega⟩,⟨by omega,by omega⟩,?_⟩
 refine Lp.fill l.1 0 0 (fun n=>-n) (by omega) (fun i out R hi hi' hf ho hR=>?_) (fun R=>?_)
 ·simp only[decide_eq_true hi',Int.toNat_natCast]
  have hn:=h2 _ (Zi (d:=0) hi)
  unfold ZeD at hn
  exact⟨⟨by omega,hi'⟩,⟨by omega,by omega⟩,⟨by omega,by omega⟩,by omega,hf,hR⟩
 ·simp only[Int.lt_irrefl,decide_false,cond_false];rfl
theorem Fit.bound{n:Int}(h:Fit n=true):-1048576≤n∧n≤1048576:=by simpa[Fit] using h
theorem Z4.b{l:Lin}(h:Z4 l=true):l.1.length≤12∧(∀ n∈l.1,-1048576≤n∧n≤1048576)∧-1048576≤l.2∧l.2≤1048576:=by
 simp only[Z4,Bool.and_eq_true,List.all_eq_true,decide_eq_true_eq] at h
 exact⟨by omega,fun n hn=>Fit.bound (h.1 n hn),Fit.bound h.2.2⟩
theorem Zd.lin{c:Zc}(h:Zd c=true):Z4 c.2.2=true:=by
 unfold Zd at h
 split at h
 ·simp only[Bool.and_eq_true] at h;exact h.2
 ·split at h
  ·simp only[Bool.and_eq_true] at h;exact h.2
  ·cases h
theorem Zd.kind{c:Zc}(h:Zd c=true):(c.1=0∧c.2.1=0)∨(c.1=1∧c.2.1=0)∨(c.1=2∧1≤c.2.1∧c.2.1≤512):=by
 unfold Zd at h
 split at h
 ·rename_i hk
  simp only[Bool.and_eq_true,beq_iff_eq] at h
  rcases hk with hk | hk
  ·exact .inl ⟨hk,h.1⟩
  ·exact .inr (.inl ⟨hk,h.1⟩)
 ·split at h
  ·rename_i hk
   simp only[Bool.and_eq_true,decide_eq_true_eq] at h
   exact .inr (.inr ⟨hk,h.1.1,h.1.2⟩)
  ·cases h
theorem Z4.linB{l:Lin}(h:Z4 l=true):linB l:=by
 have:=Z4.b h
 exact⟨by omega,fun n hn=>by have:=this.2.1 n hn;exact⟨by omega,by omega⟩,by omega,by omega⟩
theorem Zd.condB{c:Zc}(h:Zd c=true):condB c:=by
 refine⟨?_,Z4.linB (Zd.lin h)⟩
 rcases Zd.kind h with h | h | h
 ·exact .inl h.1
 ·exact .inr (.inl h.1)
 ·exact .inr (.inr ⟨h.1,h.2.1,by omega⟩)
theorem Zap.spec(c:Zc)(hp:Zap.pre (c,())):Zap.wp c (fun r=>r=Zap.fn (c,())):=by
 have hv:Zd c=true:=hp
 have hl:=Z4.b (Zd.lin hv)
 simp only[Zap.wp,Z5.fn,Zap.fn,ZaW]
 refine⟨⟨Z4.linB (Zd.lin hv),show ZeD (-1) from ⟨by decide,by decide⟩⟩,?_⟩
 rcases Zd.kind hv with h | h | h
 ·rw[h.1];rfl
 ·rw[h.1]
  exact⟨⟨by omega,by omega⟩,rfl⟩
 ·rw[h.1]
  simp only[show ((2:Int) == 0)=false from rfl,show ((2:Int) == 1)=false from rfl,cond_false]
  refine Lp.iter (c.2.1 - 1).toNat (fun i y=>y=((i:Int)+1,(List.range i).map fun (r:Nat)=>((2,c.2.1,c.2.2.1,c.2.2.2 - ((r:Int)+1)):Zc))) (by simp) ?_
  rintro i y hle rfl R hR
  by_cases e:(i:Int)+1 < c.2.1
  ·simp only[decide_eq_true e,cond_true,List.length_map,List.length_range,List.length_cons,List.length_nil]
   refine⟨⟨by omega,by omega⟩,⟨by omega,by omega⟩,⟨by omega,by omega⟩,hR (by omega) _ ?_⟩
   simp[List.range_succ]
  ·simp only[decide_eq_false e,cond_false]
   have:i=(c.2.1 - 1).toNat:=by omega
   subst this
   simp
theorem Zer(b:Bool):(Zc1 b).2=1∨(Zc1 b).2=-1:=by cases b<;>simp[Zc1]
theorem Zkm(c:Zc):(ZbF c).2=0∨(ZbF c).2=1∨(ZbF c).2=-1:=by
 unfold ZbF geF eqF Zk6
 split
 ·split
  ·exact .inr (Zer _)
  ·exact .inl rfl
 ·split
  ·split
   ·exact .inr (Zer _)
   ·exact .inl rfl
  ·split
   ·exact .inr (Zer _)
   ·split
    ·exact .inr (Zer _)
    ·exact .inl rfl
theorem Zq2(c:Zc):(Zdo c).2.2=0∨(Zdo c).2.2=3:=by
 unfold Zdo;split
 ·exact .inr rfl
 ·exact .inl rfl
theorem Ziv{c:Zc}(h:Zd c=true):(ZaW c).length≤512:=by
 unfold ZaW
 rcases Zd.kind h with h | h | h
 ·rw[if_pos h.1];simp
 ·rw[if_neg (by omega),if_pos h.1];simp
 ·rw[if_neg (by omega),if_neg (by omega)];simp;omega
theorem Zjm{c:Zc}(h:Zd c=true):∀ o∈ZaW c,condB o:=by
 have hl:=Z4.b (Zd.lin h)
 have hopp:linB (ZqL c.2.2 (-1)):=by
  refine⟨by simp[ZqL];omega,fun n hn=>?_,?_,?_⟩
  ·simp only[ZqL,List.mem_map] at hn
   obtain⟨a,ha,rfl⟩:=hn
   have:=hl.2.1 a ha
   exact⟨by omega,by omega⟩
  ·simp only[ZqL];omega
  ·simp only[ZqL];omega
 have hb:∀ n∈c.2.2.1,ZeD n:=fun n hn=>by have:=hl.2.1 n hn;exact⟨by omega,by omega⟩
 intro o ho
 unfold ZaW at ho
 rcases Zd.kind h with h | h | h
 ·rw[if_pos h.1] at ho
  simp only[List.mem_singleton] at ho
  subst ho
  exact⟨.inl rfl,hopp⟩
 ·rw[if_neg (by omega),if_pos h.1] at ho
  simp only[List.mem_cons,List.not_mem_nil,or_false] at ho
  rcases ho with rfl | rfl
  ·exact⟨.inl rfl,by simp only;omega,hb,by simp only;omega,by simp only;omega⟩
  ·exact⟨.inl rfl,hopp⟩
 ·rw[if_neg (by omega),if_neg (by omega)] at ho
  simp only[List.mem_map,List.mem_range] at ho
  obtain⟨r,hr,rfl⟩:=ho
  exact⟨.inr (.inr ⟨rfl,h.2.1,by simp only;omega⟩),by simp only;omega,hb,by simp only;omega,by simp only;omega⟩
theorem ZjP{n:Nat}{out:List Zc}{o:Zc}{out':List Zc}(h:Zcy n out o=some out'):out'.length≤out.length+1:=by
 unfold Zcy at h
 split at h
 ·cases h
 ·split at h
  ·cases h;simp
  ·split at h
   ·cases h;omega
   ·cases h;simp
theorem Zfk{α β:Type}{f:List β→α→Option (List β)}(hf:∀ t x t',f t x=some t'→t'.length≤t.length+1):∀ (l:List α) (a t:List β),l.foldlM f a=some t→t.length≤a.length+l.length
 | [],a,t,h=>by cases h;simp
 | x::l,a,t,h=>by
   rw[List.foldlM_cons] at h
   cases hx:f a x with
   | none=>rw[hx] at h;cases h
   | some b =>
     rw[hx] at h
     have:=Zfk hf l b t h
     have:=hf a x b hx
     simp only[List.length_cons];omega
theorem ZaX.spec(c:Zc):ZaX.wp c (fun r=>r=ZaX.fn (c,())):=by
 simp only[ZaX.wp,ZE.fn,ZaX.fn,Zgo,Zap.fn,ZaD.fn,Int.toNat_natCast]
 cases hv:Zd c with
 | false=>simp
 | true =>
   simp only[Bool.not_true,cond_false,Bool.true_eq_false,if_false]
   have hl:=Z4.b (Zd.lin hv)
   have hol:=Ziv hv
   have hob:=Zjm hv
   refine⟨hv,?_⟩
   refine Lp.foldO (ZaW c) Za (Zcy c.2.2.1.length) [] (by omega) (fun i t R hi hi' hf ht hR hn=>?_) (fun t R ht=>?_)
   ·have htl:t.length≤512:=by
     have:=Zfk (fun _ _ _ h=>ZjP h) _ _ _ ht
     simp only[List.length_take,List.length_nil] at this;omega
    have hmem:=Zi (d:=Za) hi
    simp only[decide_eq_true hi',Int.toNat_natCast,cond_true]
    refine⟨⟨by omega,hi'⟩,hob _ hmem,?_⟩
    unfold Zcy at hR
    rcases Zq2 ((ZaW c).getD i Za) with h0 | h0
    ·simp only[h0,bne_self_eq_false,cond_false,ne_eq,not_true_eq_false,if_false] at hR ⊢
     by_cases h1:0 < (Zdo ((ZaW c).getD i Za)).2.1
     ·simp only[h1,if_true] at hR
      simp only[decide_eq_true h1,cond_true,List.length_cons,List.length_nil]
      exact⟨⟨by omega,by omega,by omega,by omega⟩,⟨by omega,by omega⟩,hf,hR _ rfl⟩
     ·simp only[h1,if_false] at hR
      simp only[decide_eq_false h1,cond_false]
      by_cases h2:(Zdo ((ZaW c).getD i Za)).2.1 < 0
      ·simp only[h2,if_true] at hR
       simp only[decide_eq_true h2,cond_true]
       exact⟨hf,hR _ rfl⟩
      ·simp only[h2,if_false] at hR
       simp only[decide_eq_false h2,cond_false,List.length_cons,List.length_nil]
       exact⟨⟨by omega,by omega⟩,hf,hR _ rfl⟩
    ·simp only[h0]
     rw[hn (by unfold Zcy;rw[if_pos (by rw[h0];decide)])]
     rfl
   ·simp only[Int.lt_irrefl,decide_false,cond_false]
    rw[ht]
    simp only
    by_cases h4:400 < t.length
    ·rw[if_pos h4,decide_eq_true (show (400:Int) < (t.length:Int) by omega)];rfl
    ·rw[if_neg h4,decide_eq_false (show ¬ (400:Int) < (t.length:Int) by omega)];rfl
theorem Zan.spec(n:Int):Zan.wp n (fun r=>r=Zan.fn (n,())):=by simp[Zan.wp,Zan.fn]
theorem ZI.spec(a b:Int):ZI.wp a b (fun r=>r=ZI.fn (a,b,())):=by
 simp only[ZI.wp,Zan.fn,ZI.fn,ZhJ,cond_false]
 by_cases h:a < b
 ·simp[h]
 ·by_cases h2:b < a<;>simp[h,h2]
theorem ZtJ{l:List Int}{i:Nat}(h:∀ j,j < i→l.getD j 0=0):orL l=orL (l.drop i):=by
 induction i generalizing l with
 | zero=>rfl
 | succ i ih =>
   cases l with
   | nil=>rfl
   | cons n l =>
     have h0:=h 0 (by omega)
     simp at h0
     simp only[orL,if_pos h0,List.drop_succ_cons]
     exact ih (fun j hj=>by have:=h (j+1) (by omega);simpa using this)
theorem ZbA.spec(l:List Int)(hl:l.length≤9223372036854775807):ZbA.wp l (fun r=>r=ZbA.fn (l,())):=by
 refine Lp.iter l.length (fun i y=>y=(i:Int)∧∀ j,j < i→l.getD j 0=0) ⟨rfl,fun j hj=>absurd hj (by omega)⟩ ?_
 rintro i y hle ⟨rfl,hi⟩ R hR
 have hd:=ZtJ hi
 by_cases e:i < l.length
 ·simp only[decide_eq_true (show (i:Int) < (l.length:Int) by omega),Int.toNat_natCast,cond_true]
  refine⟨⟨by omega,by omega⟩,?_⟩
  rw[List.drop_eq_getElem_cons e] at hd
  by_cases h0:l.getD i 0=0
  ·simp only[h0,bne_self_eq_false,cond_false]
   refine⟨⟨by omega,by omega⟩,hR e _ ⟨by omega,fun j hj=>?_⟩⟩
   by_cases ej:j=i
   ·subst ej;exact h0
   ·exact hi j (by omega)
  ·simp only[bne_iff_ne.2 h0,cond_true]
   rw[ZN e] at h0 ⊢
   simp only[orL,if_neg h0] at hd
   exact hd.symm
 ·have:i=l.length:=by omega
  subst this
  simp only[Int.lt_irrefl,decide_false,cond_false]
  rw[List.drop_length] at hd
  exact hd.symm
theorem Zx.spec(a b:List Int)(hl:a.length≤9223372036854775807):Zx.wp a b (fun r=>r=Zx.fn (a,b,())):=by
 refine Lp.iter a.length (fun i y=>y=(i:Int)∧i≤b.length∧Zdl a b=Zdl (a.drop i) (b.drop i)) ⟨rfl,Nat.zero_le _,rfl⟩ ?_
 rintro i y hle ⟨rfl,hib,hd⟩ R hR
 have hfn:Zx.fn (a,b,())=Zdl a b:=rfl
 rw[hfn]
 by_cases e:i < a.length
 ·simp only[decide_eq_true (show (i:Int) < (a.length:Int) by omega),Int.toNat_natCast,cond_true,ZI.fn]
  refine⟨⟨by omega,by omega⟩,?_⟩
  rw[List.drop_eq_getElem_cons e] at hd
  by_cases hb:i < b.length
  ·rw[decide_eq_false (show ¬ (b.length:Int)≤(i:Int) by omega)]
   rw[List.drop_eq_getElem_cons hb] at hd
   refine⟨⟨by omega,by omega⟩,?_⟩
   rw[ZN e,ZN hb]
   simp only[Zdl] at hd
   by_cases hc:ZhJ a[i] b[i]=0
   ·rw[if_pos hc] at hd
    rw[hc,bne_self_eq_false]
    exact⟨⟨by omega,by omega⟩,hR e _ ⟨by omega,hb,hd⟩⟩
   ·rw[if_neg hc] at hd
    rw[bne_iff_ne.2 hc]
    exact hd.symm
  ·rw[decide_eq_true (show (b.length:Int)≤(i:Int) by omega)]
   rw[List.drop_eq_nil_of_le (show b.length≤i by omega)] at hd
   exact hd.symm
 ·have:i=a.length:=by omega
  subst this
  simp only[Int.lt_irrefl,decide_false,cond_false]
  rw[List.drop_length] at hd
  by_cases hb:a.length < b.length
  ·rw[decide_eq_true (show (a.length:Int) < (b.length:Int) by omega)]
   rw[List.drop_eq_getElem_cons hb] at hd
   exact hd.symm
  ·rw[decide_eq_false (show ¬ (a.length:Int) < (b.length:Int) by omega)]
   rw[List.drop_eq_nil_of_le (show b.length≤a.length by omega)] at hd
   exact hd.symm
theorem ZaE.spec(a b:Zc)(hp:ZaE.pre (a,b,())):ZaE.wp a b (fun r=>r=ZaE.fn (a,b,())):=by
 obtain⟨ha,hb⟩:=hp
 obtain⟨ka,ma,ca⟩:=a
 obtain⟨kb,mb,cb⟩:=b
 simp only[ZaE.wp,ZaE.fn,Zh3,ZbA.fn,ZI.fn,Zx.fn]
 rcases ha with h | h | h<;>rcases hb with h' | h' | h'<;>(simp only at h h';subst h h';simp[Zcz])
theorem Zbm.spec(c:Zc):Zbm.wp c (fun r=>r=Zbm.fn (c,())):=rfl
theorem Zaz.spec(a b:Zc)(hp:Zaz.pre (a,b,())):Zaz.wp a b (fun r=>r=Zaz.fn (a,b,())):=⟨hp,rfl⟩
theorem ZrY{α:Type}{f:α→Bool}{l:List α}{d:α}{i:Nat}(h:∀ j,j < i→f (l.getD j d)=false)(hi:i≤l.length)(k:Int):ZpT f l k=ZpT f (l.drop i) (k+i):=by
 induction i generalizing l k with
 | zero=>simp
 | succ i ih =>
   cases l with
   | nil=>simp at hi
   | cons x l =>
     have h0:=h 0 (by omega)
     simp at h0
     simp only[ZpT,h0,Bool.false_eq_true,if_false,List.drop_succ_cons]
     rw[ih (fun j hj=>by have:=h (j+1) (by omega);simpa using this) (by simpa using hi)]
     congr 1;omega
theorem Zk.spec(l:List Zc)(f:(Zc→Prop)×(Zc→Bool))(hl:l.length≤9223372036854775807)(hp:Zk.pre (l,f,())):Zk.wp l f (fun r=>r=Zk.fn (l,f,())):=by
 refine Lp.iter l.length (fun i y=>y=(i:Int)∧∀ j,j < i→f.2 (l.getD j Za)=false) ⟨rfl,fun j hj=>absurd hj (by omega)⟩ ?_
 rintro i y hle ⟨rfl,hi⟩ R hR
 have hd:=ZrY hi hle 0
 have hfn:Zk.fn (l,f,())=ZpT f.2 l 0:=rfl
 rw[hfn]
 by_cases e:i < l.length
 ·simp only[decide_eq_true (show (i:Int) < (l.length:Int) by omega),Int.toNat_natCast,cond_true]
  refine⟨⟨by omega,by omega⟩,hp _ (Zi e),?_⟩
  rw[List.drop_eq_getElem_cons e] at hd
  cases h0:f.2 (l.getD i Za) with
  | true =>
    rw[ZN e] at h0
    simp only[ZpT,h0,if_true] at hd
    show (i:Int)=_
    omega
  | false =>
    refine⟨⟨by omega,by omega⟩,hR e _ ⟨by omega,fun j hj=>?_⟩⟩
    by_cases ej:j=i
    ·subst ej;exact h0
    ·exact hi j (by omega)
 ·have:i=l.length:=by omega
  subst this
  simp only[Int.lt_irrefl,decide_false,cond_false]
  rw[List.drop_length] at hd
  exact hd.symm
theorem Zpf{α:Type}{f:α→Bool}:∀ {l:List α} {k:Int},0≤k→decide (0≤ZpT f l k)=l.any f
 | [],k,_=>by simp[ZpT]
 | x::l,k,hk=>by
   simp only[List.any_cons]
   by_cases h:f x=true
   ·simp[ZpT,h,hk]
   ·rw[show ZpT f (x::l) k=ZpT f l (k+1) by simp[ZpT,h],Zpf (by omega)]
    simp[h]
theorem Zg.spec(l:List Zc)(f:(Zc→Prop)×(Zc→Bool))(hp:Zg.pre (l,f,())):Zg.wp l f (fun r=>r=Zg.fn (l,f,())) :=
 ⟨hp,Zpf (Int.le_refl 0)⟩
def ZeB(l:List Int)(s:Int):List Int:=l.flatMap fun n=>ZbU (s*n)++[44]
def ZcN(p:List Zc):List Int:=p.flatMap fun c=>ZbU c.1++[58]++ZbU c.2.1++[58]++ZeB c.2.2.1 1++ZbU c.2.2.2++[59]
abbrev ZaO.fn(x:List Int×Int×Unit):ByteArray:=Zce (ZeB x.1 x.2.1)
abbrev ZaO.pre(x:List Int×Int×Unit):Prop:=x.1.length≤1048576∧Zdd x.1∧(x.2.1=1∨x.2.1=-1)
abbrev Zq.fn(x:List Zc×Unit):ByteArray:=Zce (ZcN x.1)
def nameOk(p:List Zc):Prop:=p.length≤1048576∧∀ c∈p,c.2.2.1.length≤4096∧Zdd c.2.2.1∧Zdd [c.1,c.2.1,c.2.2.2]
abbrev Zq.pre(x:List Zc×Unit):Prop:=nameOk x.1
def ZeJ(C:List Int)(out:List Zc):Option Nat:=out.findIdx? fun d=>decide (d.1=0∧d.2.2.1=C)
def ZhU(d:Zc)(k:Int):Zc:=(d.1,d.2.1,d.2.2.1,min d.2.2.2 k)
def Zbr(out:List Zc)(c:Zc):List Zc:=if c.1≠0 then out++[c] else match ZeJ c.2.2.1 out with
 | some i=>out.set i (ZhU (out.getD i Za) c.2.2.2)
 | none=>out++[c]
def ZbM(l:List Zc):List Zc:=l.foldl Zbr []
abbrev Za6.fn(x:List Zc×Unit):List Zc:=ZbM x.1
def ZuU(l:List Zc):Prop:=l.length≤1048576∧∀ c∈l,c.2.2.1.length≤1048576∧Zdd c.2.2.1
abbrev Za6.pre(x:List Zc×Unit):Prop:=ZuU x.1
def Zcm(C:List Int):List Int:=C.map fun n=>-n
def Zde(C:List Int):List Zc→Nat→Option Nat
 | [],_=>none
 | d::l,i=>match Zde C l (i+1) with
   | some j=>some j
   | none=>if d.1=0∧d.2.2.1=C then some i else none
def Zci(l:List Zc)(st:List Zc×(Int→Option Bool))(ic:Nat×Zc):Option (List Zc×(Int→Option Bool)) :=
 if (st.2 (ic.1:Int)).getD false then some st else match (if ic.2.1≠0 then none else Zde (Zcm ic.2.2.2.1) l 0) with
 | none=>some (st.1++[ic.2],st.2)
 | some j=>if ic.2.2.2.2+(l.getD j Za).2.2.2 < 0 then none else if ic.2.2.2.2+(l.getD j Za).2.2.2=0 then some (st.1++[(ZbF (1,0,ic.2.2.2)).1],ZdP st.2 (j:Int) true) else some (st.1++[ic.2],st.2)
def Zdb(l:List Zc):List (Nat×Zc):=(List.range l.length).map fun i=>(i,l.getD i Za)
def ZeO(l:List Zc):Option (List Zc):=((Zdb l).foldlM (Zci l) ([],fun _=>none)).map (·.1)
abbrev ZaF.fn(x:List Zc×Unit):List Zc×Bool:=match ZeO x.1 with
 | none=>([],true)
 | some out=>(out,false)
abbrev ZaF.pre(x:List Zc×Unit):Prop:=Zay x.1
def eqK(C:List Int)(l:List Zc):Option Int:=(l.reverse.find? fun d=>decide (d.1=1∧d.2.2.1=C)).map (·.2.2.2)
def Zed(seen:List Zc)(c:Zc):Option (List Zc):=if c.1≠1 then some (seen++[c]) else match eqK c.2.2.1 seen with
 | some n=>if n≠c.2.2.2 then none else some (seen++[c])
 | none=>some (seen++[c])
def ZdZ(l:List Zc)(out:List Zc)(c:Zc):Option (List Zc):=if c.1≠0 then some (out++[c]) else match eqK c.2.2.1 l with
 | some n=>if c.2.2.2 < n then none else some out
 | none=>match eqK (Zcm c.2.2.1) l with
   | some n=>if c.2.2.2+n < 0 then none else some out
   | none=>some (out++[c])
def Zcl(l:List Zc):Option (List Zc):=match l.foldlM Zed [] with
 | none=>none
 | some _=>l.foldlM (ZdZ l) []
def Zh4(c:Zc):List Zc→List Zc
 | []=>[c]
 | d::l=>if Zh3 d c < 0 then d::Zh4 c l else if d=c then d::l else c::d::l
def Za8(l:List Zc):List Zc:=l.foldl (fun out c=>Zh4 c out) []
def Z9(p:List Zc):List Zc×Bool×Int :=
 if (p.map ZbF).any (fun r=>decide (r.2 < 0)) then ([],true,0) else
 let l:=((p.map ZbF).filter fun r=>decide (r.2=0)).map (·.1)
 match (ZeO (ZbM l)).bind Zcl with
 | none=>([],true,0)
 | some out=>if l.any (fun c=>!Zd c)||decide (96 < (Za8 out).length) then ([],false,3) else (Za8 out,false,0)
abbrev Zb.fn(x:List Zc×Unit):List Zc×Bool×Int:=Z9 x.1
abbrev Zb.pre(x:List Zc×Unit):Prop:=Zay x.1
theorem Zdr:∀ (u:Nat),∀ b∈Lib.decDigits u,48≤b.toNat∧b.toNat≤57:=by
 intro u
 induction u using Nat.strongRecOn with
 | _ u ih =>
   intro b hb
   rw[Lib.decDigits] at hb
   split at hb
   ·rename_i h
    simp only[List.mem_singleton] at hb
    subst hb
    simp;omega
   ·rename_i h
    rcases List.mem_append.1 hb with hb | hb
    ·exact ih (u / 10) (by omega) b hb
    ·simp only[List.mem_singleton] at hb
     subst hb
     simp;omega
def ZxF(l:List UInt8):Nat:=l.foldl (fun a b=>a*10+(b.toNat - 48)) 0
theorem Zpz(u:Nat):ZxF (Lib.decDigits u)=u:=by
 induction u using Nat.strongRecOn with
 | _ u ih =>
   rw[Lib.decDigits]
   split
   ·rename_i h
    simp[ZxF];omega
   ·rename_i h
    have:=ih (u / 10) (by omega)
    unfold ZxF at this ⊢
    rw[List.foldl_append,this]
    simp;omega
theorem Zgy{u v:Nat}(h:Lib.decDigits u=Lib.decDigits v):u=v:=by rw[← Zpz u,← Zpz v,h]
theorem Zqv(n:Int):∀ b∈Lib.itoa n,b.toNat=45∨(48≤b.toNat∧b.toNat≤57):=by
 intro b hb
 unfold Lib.itoa at hb
 split at hb
 ·rcases List.mem_cons.1 hb with rfl | hb
  ·exact .inl rfl
  ·exact .inr (Zdr _ b hb)
 ·exact .inr (Zdr _ b hb)
theorem Ztc{n m:Int}(h:Lib.itoa n=Lib.itoa m):n=m:=by
 have key:∀ u v:Nat,(45:UInt8)::Lib.decDigits u≠Lib.decDigits v:=fun u v e=>by
  have:=Zdr v 45 (by rw[← e];simp)
  simp at this
 unfold Lib.itoa at h
 split at h<;>split at h
 ·have:=Zgy (List.cons.inj h).2;omega
 ·exact absurd h (key _ _)
 ·exact absurd h.symm (key _ _)
 ·have:=Zgy h;omega
theorem ZgV{n m:Int}(h:ZbU n=ZbU m):n=m:=by
 refine Ztc (List.map_inj_right (f:=fun b:UInt8=>(b.toNat:Int)) (fun a b e=>?_) |>.1 h)
 exact UInt8.toNat_inj.1 (Int.ofNat_inj.1 e)
theorem Zcw(n:Int):∀ b∈ZbU n,b=45∨(48≤b∧b≤57):=by
 intro b hb
 simp only[ZbU,List.mem_map] at hb
 obtain⟨c,hc,rfl⟩:=hb
 have:=Zqv n c hc
 omega
theorem Zc0{n:Int}(h:-9223372036854775807≤n)(h2:n≤9223372036854775807):(ZbU n).length≤21:=by
 simp only[ZbU,List.length_map]
 exact Lib.itoa_length_le n (by omega) h2
theorem Zgs{s:Int}:∀ {a a' r r':List Int},s∉a→s∉a'→a++s::r=a'++s::r'→a=a'∧r=r'
 | [],[],r,r',_,_,h=>⟨rfl,(List.cons.inj h).2⟩
 | [],x::a',r,r',_,h2,h=>by
   have:=(List.cons.inj h).1
   exact absurd (by rw[this];simp) h2
 | x::a,[],r,r',h1,_,h=>by
   have:=(List.cons.inj h).1
   exact absurd (by rw[← this];simp) h1
 | x::a,y::a',r,r',h1,h2,h=>by
   obtain⟨e,h⟩:=List.cons.inj h
   simp only[List.mem_cons,not_or] at h1 h2
   obtain⟨e1,e2⟩:=Zgs h1.2 h2.2 h
   exact⟨by rw[e,e1],e2⟩
theorem Zxk(n:Int):(44:Int)∉ZbU n:=fun h=>by have:=Zcw n _ h;omega
theorem Ze1(n:Int)(l:List Int)(s:Int):ZeB (n::l) s=ZbU (s*n)++44::ZeB l s:=by simp[ZeB]
theorem Zlw:∀ {l l':List Int} {s s':Int} {r r':List Int},(44:Int)∉r→(44:Int)∉r'→ZeB l s++r=ZeB l' s'++r'→l.map (s*·)=l'.map (s'*·)∧r=r'
 | [],[],s,s',r,r',_,_,h=>⟨rfl,h⟩
 | [],n::l',s,s',r,r',h1,_,h=>by
   rw[Ze1] at h
   exact absurd (by rw[show r=_ from h];simp) h1
 | n::l,[],s,s',r,r',_,h2,h=>by
   rw[Ze1] at h
   exact absurd (by rw[show r'=_ from h.symm];simp) h2
 | n::l,m::l',s,s',r,r',h1,h2,h=>by
   rw[Ze1,Ze1,List.append_assoc,List.append_assoc,List.cons_append,List.cons_append] at h
   obtain⟨e1,e2⟩:=Zgs (Zxk _) (Zxk _) h
   obtain⟨e3,e4⟩:=Zlw h1 h2 e2
   exact⟨by rw[List.map_cons,List.map_cons,ZgV e1,e3],e4⟩
theorem ZfD(l:List Int)(s:Int):∀ b∈ZeB l s,44≤b∧b≤57:=by
 intro b hb
 simp only[ZeB,List.mem_flatMap,List.mem_append,List.mem_singleton] at hb
 obtain⟨n,_,hb | rfl⟩:=hb
 ·have:=Zcw _ b hb;omega
 ·omega
theorem Znf:∀ {l l':List Int},(∀ b∈l,0≤b∧b≤255)→(∀ b∈l',0≤b∧b≤255)→l.map (fun n=>UInt8.ofNat n.toNat)=l'.map (fun n=>UInt8.ofNat n.toNat)→l=l'
 | [],[],_,_,_=>rfl
 | [],_::_,_,_,h=>by simp at h
 | _::_,[],_,_,h=>by simp at h
 | a::l,b::l',h1,h2,h=>by
   simp only[List.map_cons,List.cons.injEq] at h
   have h3:=h1 a (by simp)
   have h4:=h2 b (by simp)
   have e:=congrArg UInt8.toNat h.1
   simp at e
   have:a=b:=by omega
   rw[this,Znf (fun c hc=>h1 c (by simp[hc])) (fun c hc=>h2 c (by simp[hc])) h.2]
theorem ZmU{l l':List Int}(h1:∀ b∈l,0≤b∧b≤255)(h2:∀ b∈l',0≤b∧b≤255)(h:Zce l=Zce l'):l=l':=by
 refine Znf h1 h2 ?_
 have:=congrArg (fun x:ByteArray=>x.data.toList) h
 simpa[Zce] using this
theorem Zlv{l:List Int}(h:∀ b∈l,0≤b∧b≤255):ZdY (Zce l)=l:=by
 simp only[ZdY,Zce,List.map_map]
 conv=>rhs;rw[← List.map_id l]
 refine List.map_congr_left fun b hb=>?_
 have:=h b hb
 simp;omega
theorem ZhB(l:List Int):l.map ((1:Int)*·)=l:=by
 conv=>rhs;rw[← List.map_id l]
 exact List.map_congr_left fun n _=>by simp
theorem ZvF(l:List Int):l.map ((-1:Int)*·)=Zcm l:=List.map_congr_left fun n _=>by omega
theorem ZsT{C C':List Int}{s s':Int}:Zce (ZeB C s)=Zce (ZeB C' s')↔C.map (s*·)=C'.map (s'*·):=by
 have hb:∀ (l:List Int) (s:Int),∀ b∈ZeB l s,0≤b∧b≤255:=fun l s b hb=>by have:=ZfD l s b hb;omega
 constructor
 ·intro h
  have:=ZmU (hb _ _) (hb _ _) h
  exact (Zlw (r:=[]) (r':=[]) (by simp) (by simp) (by simpa using this)).1
 ·intro h
  have:∀ (l:List Int) (s:Int),ZeB l s=(l.map (s*·)).flatMap fun n=>ZbU n++[44]:=fun l s=>by
   simp[ZeB,List.flatMap_map]
  rw[this,this,h]
theorem Zlt{C C':List Int}:Zce (ZeB C 1)=Zce (ZeB C' 1)↔C=C':=by rw[ZsT,ZhB,ZhB]
theorem Zo4{C C':List Int}:Zce (ZeB C (-1))=Zce (ZeB C' 1)↔Zcm C=C':=by rw[ZsT,ZhB,ZvF]
theorem Zd9(c:Zc)(p:List Zc):ZcN (c::p)=ZbU c.1++58::(ZbU c.2.1++58::((ZeB c.2.2.1 1++ZbU c.2.2.2)++59::ZcN p)):=by
 simp[ZcN]
theorem Zni:∀ {p q:List Zc},ZcN p=ZcN q→p=q
 | [],[],_=>rfl
 | [],c::q,h=>by rw[Zd9] at h;simp[ZcN] at h
 | c::p,[],h=>by rw[Zd9] at h;simp[ZcN] at h
 | c::p,d::q,h=>by
   rw[Zd9,Zd9] at h
   have n58:∀ n,(58:Int)∉ZbU n:=fun n h=>by have:=Zcw n _ h;omega
   have n59:∀ C K,(59:Int)∉ZeB C 1++ZbU K:=fun C K h=>by
    rcases List.mem_append.1 h with h | h
    ·have:=ZfD _ _ _ h;omega
    ·have:=Zcw _ _ h;omega
   obtain⟨e1,h⟩:=Zgs (n58 _) (n58 _) h
   obtain⟨e2,h⟩:=Zgs (n58 _) (n58 _) h
   obtain⟨e3,h⟩:=Zgs (n59 _ _) (n59 _ _) h
   obtain⟨e4,e5⟩:=Zlw (Zxk _) (Zxk _) e3
   rw[ZhB,ZhB] at e4
   have ih:=Zni h
   rw[ih,Prod.ext (ZgV e1) (Prod.ext (ZgV e2) (Prod.ext e4 (ZgV e5)))]
theorem Zjd(p:List Zc):∀ b∈ZcN p,0≤b∧b≤255:=by
 intro b hb
 simp only[ZcN,List.mem_flatMap,List.mem_append,List.mem_singleton] at hb
 obtain⟨c,_,hb⟩:=hb
 rcases hb with (((((hb | rfl) | hb) | rfl) | hb) | hb) | rfl
 ·have:=Zcw _ _ hb;omega
 ·omega
 ·have:=Zcw _ _ hb;omega
 ·omega
 ·have:=ZfD _ _ _ hb;omega
 ·have:=Zcw _ _ hb;omega
 ·omega
theorem ZpP{p q:List Zc}:Zce (ZcN p)=Zce (ZcN q)↔p=q :=
 ⟨fun h=>Zni (ZmU (Zjd p) (Zjd q) h),fun h=>by rw[h]⟩
def ZaO.wp(x0:List Int)(x1:Int)(Q:ByteArray→Prop):Prop:=let v2:=List.length ([(44:Int)]);Lp (σ:=Int×List Int) (fun y3 R3=>let v0:=List.getD x0 (Int.toNat y3.1) (0:Int);let v1:=List.length (y3.2++ZbU (x1*v0));cond (decide (y3.1 < ((List.length x0:Nat):Int))) (((0:Int)≤y3.1∧y3.1 < ((List.length x0:Nat):Int))∧(Zm IntKind.i64 (x1*v0)∧(ZqB (x1*v0) y3.2∧((((v1+v2)*1)≤140737488355328∧(v1+v2)≤9223372036854775807)∧(Zm IntKind.i64 (y3.1+(1:Int))∧R3 ((y3.1+(1:Int)),((y3.2++ZbU (x1*v0))++[(44:Int)]))))))) (Q (Zce y3.2))) ((0:Int),([]:List Int))
def Zq.wp(x0:List Zc)(Q:ByteArray→Prop):Prop:=let v2:=List.length ([(58:Int)]);let v8:=List.length ([(59:Int)]);Lp (σ:=Int×List Int) (fun y2 R2=>let v0:=List.getD x0 (Int.toNat y2.1) Za;let v1:=List.length (y2.2++ZbU v0.1);let v3:=List.length (((y2.2++ZbU v0.1)++[(58:Int)])++ZbU v0.2.1);let v4:=List.length ((((y2.2++ZbU v0.1)++[(58:Int)])++ZbU v0.2.1)++[(58:Int)]);let v5:=ZaO.fn (v0.2.2.1,((1:Int),()));let v6:=List.length (ZdY v5);let v7:=List.length ((((((y2.2++ZbU v0.1)++[(58:Int)])++ZbU v0.2.1)++[(58:Int)])++ZdY v5)++ZbU v0.2.2.2);cond (decide (y2.1 < ((List.length x0:Nat):Int))) (((0:Int)≤y2.1∧y2.1 < ((List.length x0:Nat):Int))∧(ZqB v0.1 y2.2∧((((v1+v2)*1)≤140737488355328∧(v1+v2)≤9223372036854775807)∧(ZqB v0.2.1 ((y2.2++ZbU v0.1)++[(58:Int)])∧((((v3+v2)*1)≤140737488355328∧(v3+v2)≤9223372036854775807)∧(ZaO.pre (v0.2.2.1,((1:Int),()))∧((((v4+v6)*1)≤140737488355328∧(v4+v6)≤9223372036854775807)∧(ZqB v0.2.2.2 (((((y2.2++ZbU v0.1)++[(58:Int)])++ZbU v0.2.1)++[(58:Int)])++ZdY v5)∧((((v7+v8)*1)≤140737488355328∧(v7+v8)≤9223372036854775807)∧(Zm IntKind.i64 (y2.1+(1:Int))∧R2 ((y2.1+(1:Int)),(((((((y2.2++ZbU v0.1)++[(58:Int)])++ZbU v0.2.1)++[(58:Int)])++ZdY v5)++ZbU v0.2.2.2)++[(59:Int)])))))))))))) (Q (Zce y2.2))) ((0:Int),([]:List Int))
def Za6.wp(x0:List Zc)(Q:(List Zc)→Prop):Prop:=Lp (σ:=Int×(List (Zc))×(ByteArray→Option Int)) (fun y2 R2=>let v0:=List.getD x0 (Int.toNat y2.1) Za;let v1:=ZaO.fn (v0.2.2.1,((1:Int),()));let v3:=Option.getD (y2.2.2 v1) (0:Int);let v4:=List.getD y2.2.1 (Int.toNat v3) Za;cond (decide (y2.1 < ((List.length x0:Nat):Int))) (((0:Int)≤y2.1∧y2.1 < ((List.length x0:Nat):Int))∧cond (v0.1 != (0:Int)) ((((List.length y2.2.1+List.length [v0])*48)≤140737488355328∧(List.length y2.2.1+List.length [v0])≤9223372036854775807)∧(Zm IntKind.i64 (y2.1+(1:Int))∧R2 ((y2.1+(1:Int)),((y2.2.1++[v0]),y2.2.2)))) (ZaO.pre (v0.2.2.1,((1:Int),()))∧cond (Option.isSome (y2.2.2 v1)) (((0:Int)≤v3∧v3 < ((List.length y2.2.1:Nat):Int))∧(Int.toNat v3 < List.length y2.2.1∧(((0:Int)≤v3∧v3 < ((List.length y2.2.1:Nat):Int))∧(Int.toNat v3 < List.length y2.2.1∧(Zm IntKind.i64 (y2.1+(1:Int))∧R2 ((y2.1+(1:Int)),((List.set y2.2.1 (Int.toNat v3) (v4.1,(v4.2.1,(v4.2.2.1,(Min.min v4.2.2.2 v0.2.2.2))))),y2.2.2))))))) ((((List.length y2.2.1+List.length [v0])*48)≤140737488355328∧(List.length y2.2.1+List.length [v0])≤9223372036854775807)∧(Zm IntKind.i64 (y2.1+(1:Int))∧R2 ((y2.1+(1:Int)),((y2.2.1++[v0]),(ZdP y2.2.2 v1 ((List.length y2.2.1:Nat):Int)))))))) (Q y2.2.1)) ((0:Int),(([]:List (Zc)),fun (a2:ByteArray)=>(none:Option Int)))
def ZaF.wp(x0:List Zc)(Q:(List Zc)×Bool→Prop):Prop:=Lp (σ:=Int×(ByteArray→Option Int)) (fun y2 R2=>let v0:=List.getD x0 (Int.toNat y2.1) Za;cond (decide (y2.1 < ((List.length x0:Nat):Int))) (((0:Int)≤y2.1∧y2.1 < ((List.length x0:Nat):Int))∧cond (v0.1 == (0:Int)) (ZaO.pre (v0.2.2.1,((1:Int),()))∧(Zm IntKind.i64 (y2.1+(1:Int))∧R2 ((y2.1+(1:Int)),ZdP y2.2 (ZaO.fn (v0.2.2.1,((1:Int),()))) y2.1))) (Zm IntKind.i64 (y2.1+(1:Int))∧R2 ((y2.1+(1:Int)),y2.2))) (Lp (σ:=Int×(List (Zc))×(Int→Option Bool)) (fun y4 R4=>let v3:=List.getD x0 (Int.toNat y4.1) Za;let v4:=ZaO.fn (v3.2.2.1,((-(1:Int)),()));let v6:=Option.getD (y2.2 v4) (0:Int);let v7:=List.getD x0 (Int.toNat v6) Za;let v8:=ZW.fn (((1:Int),((0:Int),v3.2.2)),());cond (decide (y4.1 < ((List.length x0:Nat):Int))) (((0:Int)≤y4.1∧y4.1 < ((List.length x0:Nat):Int))∧cond (Option.getD (y4.2.2 y4.1) false) (Zm IntKind.i64 (y4.1+(1:Int))∧R4 ((y4.1+(1:Int)),y4.2)) (ZaO.pre (v3.2.2.1,((-(1:Int)),()))∧(((!(v3.1 != (0:Int)))=true→((!(v3.1 != (0:Int)))=true∧True))∧(((v3.1 != (0:Int))=false→(!(v3.1 != (0:Int)))=true)∧cond ((v3.1 != (0:Int))||(!(Option.isSome (y2.2 v4)))) ((((List.length y4.2.1+List.length [v3])*48)≤140737488355328∧(List.length y4.2.1+List.length [v3])≤9223372036854775807)∧(Zm IntKind.i64 (y4.1+(1:Int))∧R4 ((y4.1+(1:Int)),((y4.2.1++[v3]),y4.2.2)))) (((0:Int)≤v6∧v6 < ((List.length x0:Nat):Int))∧(Zm IntKind.i64 (v3.2.2.2+v7.2.2.2)∧cond (decide ((v3.2.2.2+v7.2.2.2) < (0:Int))) (Q (([]:List (Zc)),true)) (cond ((v3.2.2.2+v7.2.2.2) == (0:Int)) (ZW.pre (((1:Int),((0:Int),v3.2.2)),())∧((((List.length y4.2.1+List.length [v8.1])*48)≤140737488355328∧(List.length y4.2.1+List.length [v8.1])≤9223372036854775807)∧(Zm IntKind.i64 (y4.1+(1:Int))∧R4 ((y4.1+(1:Int)),((y4.2.1++[v8.1]),ZdP y4.2.2 v6 true))))) ((((List.length y4.2.1+List.length [v3])*48)≤140737488355328∧(List.length y4.2.1+List.length [v3])≤9223372036854775807)∧(Zm IntKind.i64 (y4.1+(1:Int))∧R4 ((y4.1+(1:Int)),((y4.2.1++[v3]),y4.2.2))))))))))) (Q (y4.2.1,false))) ((0:Int),(([]:List (Zc)),fun (a4:Int)=>(none:Option Bool))))) ((0:Int),fun (a2:ByteArray)=>(none:Option Int))
def Zb.wp(x0:List Zc)(Q:(List Zc)×Bool×Int→Prop):Prop:=Lp (σ:=Int×List (Zc)) (fun y2 R2=>let v0:=List.getD x0 (Int.toNat y2.1) Za;let v1:=[(((ZW.fn (v0,())).1).1,((((ZW.fn (v0,())).1).2).1,((((ZW.fn (v0,())).1).2).2)))];let v2:=ZaF.fn (Za6.fn (y2.2,()),());let v14:=Zg.fn (y2.2,((fun (a9:Zc)=>True,fun (a9:Zc)=>Zbm.fn (a9,())),()));let v28:=Zg.fn (y2.2,((fun (a13:Zc)=>True,fun (a13:Zc)=>Zbm.fn (a13,())),()));let v31:=Zg.fn (y2.2,((fun (a11:Zc)=>True,fun (a11:Zc)=>Zbm.fn (a11,())),()));cond (decide (y2.1 < ((List.length x0:Nat):Int))) (((0:Int)≤y2.1∧y2.1 < ((List.length x0:Nat):Int))∧(ZW.pre (v0,())∧cond (decide ((ZW.fn (v0,())).2 < (0:Int))) (Q (([]:List (Zc)),(true,(0:Int)))) (cond ((ZW.fn (v0,())).2 == (0:Int)) ((((List.length y2.2+List.length v1)*48)≤140737488355328∧(List.length y2.2+List.length v1)≤9223372036854775807)∧(Zm IntKind.i64 (y2.1+(1:Int))∧R2 ((y2.1+(1:Int)),(y2.2++v1)))) (Zm IntKind.i64 (y2.1+(1:Int))∧R2 ((y2.1+(1:Int)),y2.2))))) (Zg.pre (y2.2,((fun (a4:Zc)=>True,fun (a4:Zc)=>Zbm.fn (a4,())),()))∧(Za6.pre (y2.2,())∧(ZaF.pre (Za6.fn (y2.2,()),())∧cond v2.2 (Q (([]:List (Zc)),(true,(0:Int)))) (Lp (σ:=Int×(ByteArray→Option Int)) (fun y4 R4=>let v3:=List.getD v2.1 (Int.toNat y4.1) Za;let v4:=ZaO.fn (v3.2.2.1,((1:Int),()));let v5:=Option.isSome (y4.2 v4);cond (decide (y4.1 < ((List.length v2.1:Nat):Int))) (((0:Int)≤y4.1∧y4.1 < ((List.length v2.1:Nat):Int))∧cond (v3.1 != (1:Int)) (Zm IntKind.i64 (y4.1+(1:Int))∧R4 ((y4.1+(1:Int)),y4.2)) (ZaO.pre (v3.2.2.1,((1:Int),()))∧((v5=true→(v5=true∧True))∧((v5=true→(v5=true∧True))∧((v5=true→(v5=true∧(v5=true∧True)))∧((v5=true→v5=true)∧cond (v5&&((Option.getD (y4.2 v4) (0:Int)) != v3.2.2.2)) (Q (([]:List (Zc)),(true,(0:Int)))) (Zm IntKind.i64 (y4.1+(1:Int))∧R4 ((y4.1+(1:Int)),ZdP y4.2 v4 v3.2.2.2)))))))) (Lp (σ:=Int×List (Zc)) (fun y6 R6=>let v7:=List.getD v2.1 (Int.toNat y6.1) Za;let v8:=ZaO.fn (v7.2.2.1,((1:Int),()));let v11:=ZaO.fn (v7.2.2.1,((-(1:Int)),()));let v13:=Option.getD (y4.2 v11) (0:Int);cond (decide (y6.1 < ((List.length v2.1:Nat):Int))) (((0:Int)≤y6.1∧y6.1 < ((List.length v2.1:Nat):Int))∧cond (v7.1 == (0:Int)) (ZaO.pre (v7.2.2.1,((1:Int),()))∧cond (Option.isSome (y4.2 v8)) (cond (decide (v7.2.2.2 < (Option.getD (y4.2 v8) (0:Int)))) (Q (([]:List (Zc)),(true,(0:Int)))) (Zm IntKind.i64 (y6.1+(1:Int))∧R6 ((y6.1+(1:Int)),y6.2))) (ZaO.pre (v7.2.2.1,((-(1:Int)),()))∧cond (Option.isSome (y4.2 v11)) (Zm IntKind.i64 (v7.2.2.2+v13)∧cond (decide ((v7.2.2.2+v13) < (0:Int))) (Q (([]:List (Zc)),(true,(0:Int)))) (Zm IntKind.i64 (y6.1+(1:Int))∧R6 ((y6.1+(1:Int)),y6.2))) ((((List.length y6.2+List.length [v7])*48)≤140737488355328∧(List.length y6.2+List.length [v7])≤9223372036854775807)∧(Zm IntKind.i64 (y6.1+(1:Int))∧R6 ((y6.1+(1:Int)),(y6.2++[v7])))))) ((((List.length y6.2+List.length [v7])*48)≤140737488355328∧(List.length y6.2+List.length [v7])≤9223372036854775807)∧(Zm IntKind.i64 (y6.1+(1:Int))∧R6 ((y6.1+(1:Int)),(y6.2++[v7]))))) (Zrn (fun (a8:Zc)=>fun (a9:Zc)=>ZaE.pre (a8,(a9,()))) y6.2∧∀ b8:List (Zc),((List.Perm y6.2 b8∧Zfy (fun (a9:Zc)=>fun (a10:Zc)=>ZaE.fn (a9,(a10,()))) b8)→cond (decide (((List.length b8:Nat):Int) < (2:Int))) (((!v14)=true→((!v14)=true∧True))∧(((!v14)=true→((!v14)=true∧True))∧((v14=false→(!v14)=true)∧cond (v14||decide ((96:Int) < ((List.length b8:Nat):Int))) (Q (([]:List (Zc)),(false,(3:Int)))) (Q (b8,(false,(0:Int))))))) (Lp (σ:=Int) (fun y9 R9=>let v15:=Int.toNat (y9 - (1:Int));let v16:=List.getD b8 (Int.toNat y9) Za;let v17:=List.getD b8 v15 Za;cond (decide (y9 < ((List.length b8:Nat):Int))) (((0:Int)≤y9∧y9 < ((List.length b8:Nat):Int))∧(Int.toNat y9 < List.length b8∧(Zm IntKind.i64 (y9 - (1:Int))∧(((0:Int)≤(y9 - (1:Int))∧(y9 - (1:Int)) < ((List.length b8:Nat):Int))∧(v15 < List.length b8∧(Zaz.pre (v16,(v17,()))∧cond (Zaz.fn (v16,(v17,()))) (((0:Int)≤y9∧y9≤((List.length b8:Nat):Int))∧Lp (σ:=Int×Int×List (Zc)) (fun y11 R11=>let v19:=Int.toNat (y11.1 - (1:Int));let v20:=List.getD y11.2.2 ((0+Int.toNat y9)+Int.toNat y11.1) Za;let v21:=List.getD y11.2.2 ((0+Int.toNat y9)+v19) Za;let v24:=List.take (0+Int.toNat y11.2.1) y11.2.2;let v25:=List.replicate (List.length y11.2.2 - Int.toNat y11.2.1) Za;let v26:=List.drop ((0+Int.toNat y11.2.1)+(List.length y11.2.2 - Int.toNat y11.2.1)) y11.2.2;let v27:=List.length ((v24++v25)++v26);let v30:=List.take (Int.toNat y11.2.1) (List.drop 0 ((v24++v25)++v26));cond (decide (y11.1 < (((List.length b8 - Int.toNat y9):Nat):Int))) (((0:Int)≤y11.1∧(y11.1 < (((List.length b8 - Int.toNat y9):Nat):Int)∧((0+Int.toNat y9)+(List.length b8 - Int.toNat y9))≤List.length y11.2.2))∧(((0+Int.toNat y9)+Int.toNat y11.1) < List.length y11.2.2∧(Zm IntKind.i64 (y11.1 - (1:Int))∧(((0:Int)≤(y11.1 - (1:Int))∧((y11.1 - (1:Int)) < (((List.length b8 - Int.toNat y9):Nat):Int)∧((0+Int.toNat y9)+(List.length b8 - Int.toNat y9))≤List.length y11.2.2))∧(((0+Int.toNat y9)+v19) < List.length y11.2.2∧(Zaz.pre (v20,(v21,()))∧cond (!(Zaz.fn (v20,(v21,())))) (((0:Int)≤y11.1∧(y11.1 < (((List.length b8 - Int.toNat y9):Nat):Int)∧((0+Int.toNat y9)+(List.length b8 - Int.toNat y9))≤List.length y11.2.2))∧(((0+Int.toNat y9)+Int.toNat y11.1) < List.length y11.2.2∧(((0:Int)≤y11.2.1∧y11.2.1 < ((List.length y11.2.2:Nat):Int))∧(Int.toNat y11.2.1 < List.length y11.2.2∧(Zm IntKind.i64 (y11.2.1+(1:Int))∧(Zm IntKind.i64 (y11.1+(1:Int))∧R11 ((y11.1+(1:Int)),((y11.2.1+(1:Int)),(List.set y11.2.2 (Int.toNat y11.2.1) v20))))))))) (Zm IntKind.i64 (y11.1+(1:Int))∧R11 ((y11.1+(1:Int)),y11.2)))))))) (((0:Int)≤y11.2.1∧y11.2.1≤((List.length y11.2.2:Nat):Int))∧(((0+Int.toNat y11.2.1)+(List.length y11.2.2 - Int.toNat y11.2.1))≤List.length y11.2.2∧(((0:Int)≤y11.2.1∧y11.2.1≤((v27:Nat):Int))∧((0+Int.toNat y11.2.1)≤v27∧(((!v28)=true→((!v28)=true∧True))∧(((!v28)=true→((!v28)=true∧True))∧((v28=false→(!v28)=true)∧cond (v28||decide ((96:Int) < ((List.length v30:Nat):Int))) (Q (([]:List (Zc)),(false,(3:Int)))) (Q (v30,(false,(0:Int)))))))))))) ((1:Int),(y9,b8))) (Zm IntKind.i64 (y9+(1:Int))∧R9 (y9+(1:Int))))))))) (((!v31)=true→((!v31)=true∧True))∧(((!v31)=true→((!v31)=true∧True))∧((v31=false→(!v31)=true)∧cond (v31||decide ((96:Int) < ((List.length b8:Nat):Int))) (Q (([]:List (Zc)),(false,(3:Int)))) (Q (b8,(false,(0:Int)))))))) (1:Int))))) ((0:Int),([]:List (Zc))))) ((0:Int),fun (a4:ByteArray)=>(none:Option Int))))))) ((0:Int),([]:List (Zc)))
theorem ZpQ(l:List Int)(s:Int):∀ b∈ZeB l s,0≤b∧b≤255:=fun b hb=>by have:=ZfD l s b hb;omega
theorem ZnW(l:List Int)(s:Int):ZdY (Zce (ZeB l s))=ZeB l s:=Zlv (ZpQ l s)
theorem ZrC(l:List Int)(n s:Int):ZeB (l++[n]) s=ZeB l s++ZbU (s*n)++[44]:=by simp[ZeB]
theorem Zp3(p:List Zc)(c:Zc):ZcN (p++[c])=ZcN p++ZbU c.1++[58]++ZbU c.2.1++[58]++ZeB c.2.2.1 1++ZbU c.2.2.2++[59]:=by simp[ZcN]
theorem Zh9{s:Int}(hs:s=1∨s=-1):∀ {l:List Int},Zdd l→(ZeB l s).length≤22*l.length
 | [],_=>by simp[ZeB]
 | n::l,h=>by
   rw[Ze1]
   have h1:=Zh9 hs (l:=l) fun m hm=>h m (by simp[hm])
   have h2:=h n (by simp)
   have h3:(ZbU (s*n)).length≤21:=by rcases hs with rfl | rfl<;>exact Zc0 (by omega) (by omega)
   simp only[List.length_append,List.length_cons];omega
theorem Znv:∀ {p:List Zc},(∀ c∈p,c.2.2.1.length≤4096∧Zdd c.2.2.1∧Zdd [c.1,c.2.1,c.2.2.2])→(ZcN p).length≤90200*p.length
 | [],_=>by simp[ZcN]
 | c::p,h=>by
   rw[Zd9]
   have h1:=Znv (p:=p) fun m hm=>h m (by simp[hm])
   obtain⟨h2,h3,h4⟩:=h c (by simp)
   have h5:=Zh9 (.inl rfl) h3
   have a1:=Zc0 (h4 c.1 (by simp)).1 (h4 c.1 (by simp)).2
   have a2:=Zc0 (h4 c.2.1 (by simp)).1 (h4 c.2.1 (by simp)).2
   have a3:=Zc0 (h4 c.2.2.2 (by simp)).1 (h4 c.2.2.2 (by simp)).2
   simp only[List.length_append,List.length_cons];omega
theorem Zp7{l:List Int}(i:Nat)(h:Zdd l):Zdd (l.take i):=fun n hn=>h n (List.mem_of_mem_take hn)
theorem ZaO.spec(l:List Int)(s:Int)(hp:ZaO.pre (l,s,())):ZaO.wp l s (fun r=>r=ZaO.fn (l,s,())):=by
 obtain⟨hl,hi,hs⟩:=hp
 simp only at hl hi hs
 have hfn:ZaO.fn (l,s,())=Zce (ZeB l s):=rfl
 simp only[ZaO.wp,hfn]
 refine Lp.iter l.length (fun i y=>y=((i:Int),ZeB (l.take i) s)) (by simp[ZeB]) ?_
 rintro i y hle rfl R hR
 by_cases e:i < l.length
 ·have hk:=Zh9 hs (Zp7 i hi)
  have hn:=hi _ (Zi (d:=0) e)
  have hlt:(l.take i).length≤1048576:=by simp;omega
  have h3:(ZbU (s*l.getD i 0)).length≤21:=by rcases hs with rfl | rfl<;>exact Zc0 (by omega) (by omega)
  have hf:Zm .i64 (s*l.getD i 0):=by
   show -9223372036854775808≤s*l.getD i 0∧s*l.getD i 0≤9223372036854775807
   rcases hs with rfl | rfl<;>omega
  simp only[decide_eq_true (show (i:Int) < (l.length:Int) by omega),Int.toNat_natCast,cond_true]
  refine⟨⟨by omega,by omega⟩,hf,⟨hf,by omega⟩,⟨?_,?_⟩,⟨by omega,by omega⟩,hR e _ ?_⟩
  ·simp only[List.length_append,List.length_cons,List.length_nil];omega
  ·simp only[List.length_append,List.length_cons,List.length_nil];omega
  ·rw[Zy 0 e,ZrC]
   rfl
 ·have:i=l.length:=by omega
  subst this
  simp only[Int.lt_irrefl,decide_false,cond_false,List.take_length]
theorem Zq.spec(p:List Zc)(hp:Zq.pre (p,())):Zq.wp p (fun r=>r=Zq.fn (p,())):=by
 obtain⟨hl,hi⟩:=hp
 simp only at hl hi
 have hfn:Zq.fn (p,())=Zce (ZcN p):=rfl
 simp only[Zq.wp,hfn,ZaO.fn,ZnW]
 refine Lp.iter p.length (fun i y=>y=((i:Int),ZcN (p.take i))) (by simp[ZcN]) ?_
 rintro i y hle rfl R hR
 by_cases e:i < p.length
 ·have hk:=Znv (p:=p.take i) fun c hc=>hi c (List.mem_of_mem_take hc)
  obtain⟨h2,h3,h4⟩:=hi _ (Zi (d:=Za) e)
  have h5:=Zh9 (.inl rfl) h3
  have b1:=h4 (p.getD i Za).1 (by simp)
  have b2:=h4 (p.getD i Za).2.1 (by simp)
  have b3:=h4 (p.getD i Za).2.2.2 (by simp)
  have a1:=Zc0 b1.1 b1.2
  have a2:=Zc0 b2.1 b2.2
  have a3:=Zc0 b3.1 b3.2
  have hlt:(p.take i).length≤1048576:=by simp;omega
  have hf:∀ n:Int,-9223372036854775807≤n∧n≤9223372036854775807→Zm .i64 n:=fun n h=>⟨by omega,h.2⟩
  simp only[decide_eq_true (show (i:Int) < (p.length:Int) by omega),Int.toNat_natCast,cond_true]
  generalize hc:p.getD i Za=c at *
  generalize hA:ZcN (p.take i)=A at *
  have g1:(A++ZbU c.1).length≤A.length+21:=by simp only[List.length_append];omega
  refine⟨⟨by omega,by omega⟩,⟨hf _ b1,by omega⟩,⟨?_,?_⟩,⟨hf _ b2,?_⟩,⟨?_,?_⟩,⟨(by omega:c.2.2.1.length≤1048576),h3,.inl rfl⟩,⟨?_,?_⟩,⟨hf _ b3,?_⟩,⟨?_,?_⟩,⟨by omega,by omega⟩,hR e _ ?_⟩
  any_goals (simp only[List.length_append,List.length_cons,List.length_nil];omega)
  rw[Zy Za e,Zp3,hA,hc]
  rfl
 ·have:i=p.length:=by omega
  subst this
  simp only[Int.lt_irrefl,decide_false,cond_false,List.take_length]
theorem ZnK{C:List Int}{out:List Zc}{c:Zc}(h:c.1≠0):ZeJ C (out++[c])=ZeJ C out:=by
 simp only[ZeJ,List.findIdx?_append]
 simp[h]
theorem ZpS{C:List Int}{out:List Zc}{c:Zc}(h:c.1=0):ZeJ C (out++[c])=(ZeJ C out).or (if C=c.2.2.1 then some out.length else none):=by
 simp only[ZeJ,List.findIdx?_append]
 by_cases h2:C=c.2.2.1
 ·simp[h,h2]
 ·rw[if_neg h2];simp[h,show ¬ c.2.2.1=C from fun e=>h2 e.symm]
theorem Zm5(C:List Int)(out:List Zc):ZeJ C out=(out.map fun d=>(d.1,d.2.2.1)).findIdx? fun d=>decide (d.1=0∧d.2=C):=by
 simp only[ZeJ,List.findIdx?_map]
 rfl
theorem ZrR{C:List Int}{out:List Zc}{i:Nat}{x:Zc}(h:x.1=(out.getD i Za).1)(h2:x.2.2.1=(out.getD i Za).2.2.1):ZeJ C (out.set i x)=ZeJ C out:=by
 by_cases e:i < out.length
 ·rw[Zm5,Zm5,List.map_set,h,h2,ZN e]
  congr 1
  have:((out[i].1,out[i].2.2.1):Int×List Int)=(out.map fun d=>(d.1,d.2.2.1))[i]'(by simpa using e):=by simp
  rw[this,List.set_getElem_self]
 ·rw[List.set_eq_of_length_le (by omega)]
theorem Zhc{C:List Int}{out:List Zc}{i:Nat}(h:ZeJ C out=some i):∃ hi:i < out.length,out[i].1=0∧out[i].2.2.1=C:=by
 obtain⟨hi,h1,_⟩:=List.findIdx?_eq_some_iff_getElem.1 h
 exact⟨hi,by simpa using h1⟩
theorem Zme(out:List Zc)(c:Zc):(Zbr out c).length≤out.length+1:=by
 unfold Zbr
 split
 ·simp
 ·split<;>simp
theorem Zhu:∀ (l out:List Zc),(l.foldl Zbr out).length≤out.length+l.length
 | [],out=>by simp
 | c::l,out=>by
   have:=Zhu l (Zbr out c)
   have:=Zme out c
   simp only[List.foldl_cons,List.length_cons];omega
def Zwh(out:List Zc)(m:ByteArray→Option Int):Prop:=∀ C,m (Zce (ZeB C 1))=(ZeJ C out).map fun (i:Nat)=>(i:Int)
theorem Za6.spec(l:List Zc)(hp:Za6.pre (l,())):Za6.wp l (fun r=>r=Za6.fn (l,())):=by
 obtain⟨hl,hi⟩:=hp
 simp only at hl hi
 have hfn:Za6.fn (l,())=ZbM l:=rfl
 simp only[Za6.wp,hfn,ZaO.fn]
 refine Lp.iter l.length (fun i y=>y.1=(i:Int)∧y.2.1=ZbM (l.take i)∧Zwh y.2.1 y.2.2) ⟨rfl,by simp[ZbM],fun C=>by simp[ZeJ]⟩ ?_
 rintro i ⟨y,out,m⟩ hle ⟨hy,ho,hm⟩ R hR
 simp only at hy ho hm
 subst hy
 by_cases e:i < l.length
 ·have hlen:=Zhu (l.take i) []
  have hlt:(l.take i).length≤1048576:=by simp;omega
  rw[show (l.take i).foldl Zbr []=out from ho.symm] at hlen
  simp only[List.length_nil] at hlen
  have hst:ZbM (l.take (i+1))=Zbr out (l.getD i Za):=by
   rw[Zy Za e,ZbM,List.foldl_append,ho];rfl
  obtain⟨hc1,hc2⟩:=hi _ (Zi (d:=Za) e)
  simp only[decide_eq_true (show (i:Int) < (l.length:Int) by omega),Int.toNat_natCast,cond_true]
  generalize l.getD i Za=c at *
  refine⟨⟨by omega,by omega⟩,?_⟩
  by_cases hk:c.1=0
  ·rw[hk]
   simp only[bne_self_eq_false,cond_false]
   refine⟨⟨hc1,hc2,.inl rfl⟩,?_⟩
   have hmC:=hm c.2.2.1
   cases hg:ZeJ c.2.2.1 out with
   | none =>
     rw[hg] at hmC
     simp only[hmC,Option.map_none,Option.isSome_none,cond_false]
     refine⟨⟨by simp;omega,by simp;omega⟩,⟨by omega,by omega⟩,hR e _ ⟨by simp,?_,?_⟩⟩
     ·simp only[hst,Zbr,hk,hg];rfl
     ·intro C
      simp only[ZdP,Zlt]
      rw[ZpS hk]
      by_cases hC:C=c.2.2.1
      ·rw[if_pos hC,if_pos hC,hC,hg];rfl
      ·rw[if_neg hC,if_neg hC,hm C];simp
   | some j =>
     rw[hg] at hmC
     obtain⟨hj,h1,h2⟩:=Zhc hg
     simp only[hmC,Option.map_some,Option.isSome_some,cond_true,Option.getD_some,Int.toNat_natCast]
     have hgj:=ZN (d:=Za) hj
     refine⟨⟨by omega,by omega⟩,hj,⟨by omega,by omega⟩,hj,⟨by omega,by omega⟩,hR e _ ⟨by simp,?_,?_⟩⟩
     ·simp only[hst,Zbr,hk,hg];rfl
     ·intro C
      exact (hm C).trans (congrArg _ (ZrR (C:=C) (out:=out) (i:=j) (x:=ZhU (out.getD j Za) c.2.2.2) rfl rfl).symm)
  ·rw[bne_iff_ne.2 hk]
   simp only[cond_true]
   refine⟨⟨by simp;omega,by simp;omega⟩,⟨by omega,by omega⟩,hR e _ ⟨by simp,?_,?_⟩⟩
   ·simp only[hst,Zbr,if_pos hk]
   ·intro C
    exact (hm C).trans (congrArg _ (ZnK hk).symm)
 ·have:i=l.length:=by omega
  subst this
  simp only[Int.lt_irrefl,decide_false,cond_false,ho,List.take_length]
theorem ZfU(C:List Int)(c:Zc):∀ (l:List Zc) (k:Nat),Zde C (l++[c]) k=if c.1=0∧c.2.2.1=C then some (k+l.length) else Zde C l k
 | [],k=>by
   simp only[List.nil_append,Zde,List.length_nil,Nat.add_zero]
 | d::l,k=>by
   simp only[List.cons_append,Zde,ZfU C c l (k+1),List.length_cons]
   by_cases h:c.1=0∧c.2.2.1=C
   ·simp only[if_pos h];congr 1;omega
   ·simp only[if_neg h]
theorem ZfY{C:List Int}:∀ {l:List Zc} {k j:Nat},Zde C l k=some j→k≤j∧∃ h:j - k < l.length,l[j - k].1=0∧l[j - k].2.2.1=C
 | [],k,j,h=>by cases h
 | d::l,k,j,h=>by
   simp only[Zde] at h
   cases h1:Zde C l (k+1) with
   | some i =>
     rw[h1] at h
     cases h
     obtain⟨h2,h3,h4⟩:=ZfY h1
     have e:j - k=(j - (k+1))+1:=by omega
     refine⟨by omega,by simp;omega,?_⟩
     simp only[e,List.getElem_cons_succ]
     exact h4
   | none =>
     rw[h1] at h
     simp only at h
     split at h
     ·rename_i h2
      cases h
      refine⟨Nat.le_refl _,by simp,?_⟩
      simp only[Nat.sub_self,List.getElem_cons_zero]
      exact h2
     ·cases h
theorem ZmQ{l:List Zc}{st st':List Zc×(Int→Option Bool)}{ic:Nat×Zc}(h:Zci l st ic=some st'):st'.1.length≤st.1.length+1:=by
 unfold Zci at h
 split at h
 ·cases h;omega
 ·split at h
  ·cases h;simp
  ·split at h
   ·cases h
   ·split at h<;>(cases h;simp)
theorem ZiX{l:List Zc}:∀ {m:List (Nat×Zc)} {st st':List Zc×(Int→Option Bool)},m.foldlM (Zci l) st=some st'→st'.1.length≤st.1.length+m.length
 | [],st,st',h=>by cases h;simp
 | x::m,st,st',h=>by
   simp only[List.foldlM_cons,Option.bind_eq_bind,Option.bind_eq_some_iff] at h
   obtain⟨s,h1,h2⟩:=h
   have:=ZmQ h1
   have:=ZiX h2
   simp only[List.length_cons];omega
theorem Zck(l:List Zc):(Zdb l).length=l.length:=by simp[Zdb]
theorem ZhI{l:List Zc}{i:Nat}(h:i < l.length):(Zdb l).getD i (0,Za)=(i,l.getD i Za):=by
 rw[ZN (by rw[Zck];exact h)]
 simp[Zdb]
theorem Zc3{l:Lin}(h:linB l):Zdd l.1:=fun n hn=>by have:=h.2.1 n hn;unfold ZeD at this;omega
theorem ZaF.spec(l:List Zc)(hp:ZaF.pre (l,())):ZaF.wp l (fun r=>r=ZaF.fn (l,())):=by
 obtain⟨hl,hi⟩:=hp
 simp only at hl hi
 simp only[ZaF.wp,ZaO.fn]
 refine Lp.iter l.length (fun i y=>y.1=(i:Int)∧∀ C,y.2 (Zce (ZeB C 1))=(Zde C (l.take i) 0).map fun (i:Nat)=>(i:Int)) ⟨rfl,fun C=>rfl⟩ ?_
 rintro i ⟨y,m⟩ hle ⟨hy,hm⟩ R hR
 simp only at hy hm
 subst hy
 by_cases e:i < l.length
 ·obtain⟨hk0,hb⟩:=hi _ (Zi (d:=Za) e)
  simp only[decide_eq_true (show (i:Int) < (l.length:Int) by omega),Int.toNat_natCast,cond_true]
  refine⟨⟨by omega,by omega⟩,?_⟩
  have hts:=Zy Za e
  generalize l.getD i Za=c at *
  by_cases hk:c.1=0
  ·simp only[hk,beq_self_eq_true,cond_true]
   refine⟨⟨hb.1,Zc3 hb,.inl rfl⟩,⟨by omega,by omega⟩,hR e _ ⟨rfl,fun C=>?_⟩⟩
   rw[hts,ZfU]
   simp only[ZdP,Zlt]
   by_cases hC:C=c.2.2.1
   ·rw[if_pos hC,if_pos ⟨hk,hC.symm⟩];simp;omega
   ·rw[if_neg hC,if_neg (fun h=>hC h.2.symm)];exact hm C
  ·rw[beq_eq_false_iff_ne.2 hk]
   simp only[cond_false]
   refine⟨⟨by omega,by omega⟩,hR e _ ⟨rfl,fun C=>?_⟩⟩
   rw[hts,ZfU,if_neg (fun h=>hk h.1)]
   exact hm C
 clear hR
 have hil:i=l.length:=by omega
 subst hil
 simp only[Int.lt_irrefl,decide_false,cond_false]
 rw[List.take_length] at hm
 have hfn:ZaF.fn (l,())=(match ((Zdb l).foldlM (Zci l) ([],fun _=>none)).map (·.1) with | none=>([],true) | some out=>(out,false)):=rfl
 refine Lp.foldO (Zdb l) (0,Za) (Zci l) ([],fun _=>none) (by rw[Zck];omega) ?_ ?_
 ·rintro i ⟨out,gone⟩ R e _ hf ht hR1 hR2
  rw[Zck] at e
  rw[ZhI e] at hR1 hR2
  have hlen:=ZiX ht
  simp only[List.length_nil,List.length_take,Zck] at hlen
  obtain⟨hk0,hb⟩:=hi _ (Zi (d:=Za) e)
  simp only[decide_eq_true (show (i:Int) < (l.length:Int) by omega),Int.toNat_natCast,cond_true]
  refine⟨⟨by omega,by omega⟩,?_⟩
  have hat:∀ j,j < l.length→l.getD j Za∈l:=fun j hj=>Zi hj
  simp only[Zci] at hR1 hR2
  by_cases hg:(gone (i:Int)).getD false=true
  ·simp only[hg,cond_true,if_true] at hR1 ⊢
   exact⟨hf,hR1 _ rfl⟩
  rw[Bool.not_eq_true] at hg
  simp only[hg,cond_false,Bool.false_eq_true,if_false] at hR1 hR2 ⊢
  refine⟨⟨hb.1,Zc3 hb,.inr rfl⟩,fun h=>⟨h,trivial⟩,fun h=>by rw[h];rfl,?_⟩
  have hw:m (Zce (ZeB (l.getD i Za).2.2.1 (-1)))=(Zde (Zcm (l.getD i Za).2.2.1) l 0).map fun (i:Nat)=>(i:Int):=by
   rw[← hm,Zo4.2 rfl]
  simp only[hw]
  by_cases hk:(l.getD i Za).1=0
  ·simp only[hk,bne_self_eq_false,Bool.false_or,ne_eq,not_true_eq_false,if_false] at hR1 hR2 ⊢
   cases hj:Zde (Zcm (l.getD i Za).2.2.1) l 0 with
   | none =>
     rw[hj] at hR1
     simp only[Option.map_none,Option.isSome_none,Bool.not_false,cond_true]
     exact⟨⟨by simp;omega,by simp;omega⟩,hf,hR1 _ rfl⟩
   | some j =>
     rw[hj] at hR1 hR2
     obtain⟨_,hj1,hj2,hj3⟩:=ZfY hj
     simp only[Nat.sub_zero] at hj1 hj2 hj3
     obtain⟨_,hb'⟩:=hi _ (hat j hj1)
     have q1:=hb.2.2
     have q2:=hb'.2.2
     unfold ZeD at q1 q2
     simp only[Option.map_some,Option.isSome_some,Bool.not_true,cond_false,Option.getD_some,Int.toNat_natCast] at hR1 hR2 ⊢
     refine⟨⟨by omega,by omega⟩,⟨by omega,by omega⟩,?_⟩
     by_cases h1:(l.getD i Za).2.2.2+(l.getD j Za).2.2.2 < 0
     ·simp only[decide_eq_true h1,cond_true]
      rw[hfn,hR2 (by rw[if_pos h1])]
      rfl
     ·simp only[decide_eq_false h1,cond_false]
      rw[if_neg h1] at hR1
      by_cases h2:(l.getD i Za).2.2.2+(l.getD j Za).2.2.2=0
      ·rw[if_pos h2] at hR1
       simp only[h2,beq_self_eq_true,cond_true]
       exact⟨⟨.inr (.inl rfl),hb⟩,⟨by simp;omega,by simp;omega⟩,hf,hR1 _ rfl⟩
      ·rw[if_neg h2] at hR1
       rw[beq_eq_false_iff_ne.2 h2]
       simp only[cond_false]
       exact⟨⟨by simp;omega,by simp;omega⟩,hf,hR1 _ rfl⟩
  ·simp only[bne_iff_ne.2 hk,Bool.true_or,cond_true,ne_eq,hk,not_false_eq_true,if_true] at hR1 ⊢
   exact⟨⟨by simp;omega,by simp;omega⟩,hf,hR1 _ rfl⟩
 ·rintro⟨out,gone⟩ R ht
  rw[Zck]
  simp only[Int.lt_irrefl,decide_false,cond_false]
  rw[hfn,ht]
  rfl
def Zgr{α:Type}(f:α→α→Int):Prop:=(∀ x y,f x y=-f y x)∧∀ x y z,f x y≤0→f y z≤0→f x z≤0∧(f x z=0→f x y=0∧f y z=0)
theorem Zgr.zero{α:Type}{f:α→α→Int}(h:Zgr f){x y z:α}(h1:f x y=0)(h2:f y z=0):f x z=0:=by
 have a:=(h.2 x y z (by omega) (by omega)).1
 have b:=(h.2 z y x (by have:=h.1 z y;omega) (by have:=h.1 y x;omega)).1
 have:=h.1 x z
 omega
theorem Zgr.lex{α β:Type}{f:α→α→Int}{g:β→β→Int}(hf:Zgr f)(hg:Zgr g):Zgr fun x y:α×β=>if f x.1 y.1=0 then g x.2 y.2 else f x.1 y.1:=by
 refine⟨fun x y=>?_,fun x y z=>?_⟩
 ·have:=hf.1 x.1 y.1
  have:=hg.1 x.2 y.2
  simp only
  split<;>split<;>omega
 ·have h1:=hf.2 x.1 y.1 z.1
  have h2:=hg.2 x.2 y.2 z.2
  have h3:=@Zgr.zero _ _ hf x.1 y.1 z.1
  simp only
  intro ha hb
  split at ha<;>split at hb<;>split<;>(try split)<;>(try split)<;>omega
theorem Zgr.comap{α β:Type}{f:α→α→Int}(hf:Zgr f)(g:β→α):Zgr fun x y=>f (g x) (g y):=⟨fun x y=>hf.1 _ _,fun x y z=>hf.2 _ _ _⟩
theorem Zeh:Zgr ZhJ:=by
 refine⟨fun x y=>?_,fun x y z=>?_⟩
 ·unfold ZhJ;repeat' split
  all_goals omega
 ·unfold ZhJ;repeat' split
  all_goals omega
theorem Znl:∀ a b:List Int,Zdl a b=-Zdl b a
 | [],[]=>rfl
 | [],_::_=>rfl
 | _::_,[]=>rfl
 | x::a,y::b=>by
   have h1:=Zeh.1 x y
   have h2:=Znl a b
   simp only[Zdl]
   split<;>split<;>omega
theorem ZkJ:∀ a b c:List Int,Zdl a b≤0→Zdl b c≤0→Zdl a c≤0∧(Zdl a c=0→Zdl a b=0∧Zdl b c=0)
 | [],[],[]=>by simp[Zdl]
 | [],[],_::_=>by simp[Zdl]
 | [],_::_,[]=>by simp[Zdl]
 | [],_::_,_::_=>by simp[Zdl]
 | _::_,[],_=>by simp[Zdl]
 | _::_,_::_,[]=>by simp[Zdl]
 | x::a,y::b,z::c=>by
   have h1:=Zeh.2 x y z
   have h2:=ZkJ a b c
   have h3:=@Zgr.zero _ _ Zeh x y z
   simp only[Zdl]
   intro ha hb
   split at ha<;>split at hb<;>split<;>(try split)<;>(try split)<;>omega
theorem Zse:Zgr Zdl:=⟨Znl,ZkJ⟩
theorem Zlo{a b:Int}(h:ZhJ a b=0):a=b:=by
 unfold ZhJ at h
 split at h
 ·omega
 ·split at h<;>omega
theorem Zrf:∀ {a b:List Int},Zdl a b=0→a=b
 | [],[],_=>rfl
 | [],_::_,h=>by simp[Zdl] at h
 | _::_,[],h=>by simp[Zdl] at h
 | x::a,y::b,h=>by
   simp only[Zdl] at h
   split at h
   ·rename_i h1
    rw[Zlo h1,Zrf h]
   ·rename_i h1;exact absurd h h1
theorem Zik(a b:Zc):Zh3 a b=if ZhJ (Zcz a.1) (Zcz b.1)=0 then (if ZhJ a.2.1 b.2.1=0 then (if Zdl a.2.2.1 b.2.2.1=0 then ZhJ a.2.2.2 b.2.2.2 else Zdl a.2.2.1 b.2.2.1) else ZhJ a.2.1 b.2.1) else ZhJ (Zcz a.1) (Zcz b.1):=by
 simp only[Zh3,orL]
 split
 ·split
  ·split
   ·split<;>omega
   ·rfl
  ·rfl
 ·rfl
theorem Zc5:Zgr Zh3:=by
 have h:=(Zeh.comap Zcz).lex (Zeh.lex (Zse.lex Zeh))
 refine⟨fun x y=>?_,fun x y z=>?_⟩
 ·have:=h.1 x y
  simp only[Zik];exact this
 ·have:=h.2 x y z
  simp only[Zik];exact this
theorem ZgR(a:Zc):Zh3 a a=0:=by have:=Zc5.1 a a;omega
theorem ZrT{a b:Int}(ha:ZgB a)(hb:ZgB b)(h:Zcz a=Zcz b):a=b:=by
 rcases ha with rfl | rfl | rfl<;>rcases hb with rfl | rfl | rfl<;>first | rfl | (simp[Zcz] at h)
theorem Zl5{a b:Zc}(ha:ZgB a.1)(hb:ZgB b.1)(h:Zh3 a b=0):a=b:=by
 rw[Zik] at h
 split at h
 ·rename_i h1
  split at h
  ·rename_i h2
   split at h
   ·rename_i h3
    exact Prod.ext (ZrT ha hb (Zlo h1)) (Prod.ext (Zlo h2) (Prod.ext (Zrf h3) (Zlo h)))
   ·rename_i h3;exact absurd h h3
  ·rename_i h2;exact absurd h h2
 ·rename_i h1;exact absurd h h1
def SS(l:List Zc):Prop:=l.Pairwise fun a b=>Zh3 a b < 0
def K3(l:List Zc):Prop:=∀ c∈l,ZgB c.1
theorem ZrE:∀ {l m:List Zc},SS l→SS m→(∀ c,c∈l↔c∈m)→l=m
 | [],[],_,_,_=>rfl
 | [],b::m,_,_,h=>by have:=(h b).2 (by simp);simp at this
 | a::l,[],_,_,h=>by have:=(h a).1 (by simp);simp at this
 | a::l,b::m,h1,h2,h=>by
   obtain⟨h1a,h1b⟩:=List.pairwise_cons.1 h1
   obtain⟨h2a,h2b⟩:=List.pairwise_cons.1 h2
   have e:a=b:=by
    rcases List.mem_cons.1 ((h a).1 (by simp)) with e | ha
    ·exact e
    rcases List.mem_cons.1 ((h b).2 (by simp)) with e | hb
    ·exact e.symm
    have:=h1a b hb
    have:=h2a a ha
    have:=Zc5.1 a b
    omega
   subst e
   congr 1
   refine ZrE h1b h2b fun c=>?_
   have hc:=h c
   simp only[List.mem_cons] at hc
   have hn1:c∈l→c≠a:=fun hm e=>by subst e;have:=h1a _ hm;have:=ZgR c;omega
   have hn2:c∈m→c≠a:=fun hm e=>by subst e;have:=h2a _ hm;have:=ZgR c;omega
   exact⟨fun hm=>(hc.1 (.inr hm)).resolve_left (hn1 hm),fun hm=>(hc.2 (.inr hm)).resolve_left (hn2 hm)⟩
theorem ZgJ{c x:Zc}:∀ {l:List Zc},x∈Zh4 c l↔x=c∨x∈l
 | []=>by simp[Zh4]
 | d::l=>by
   simp only[Zh4]
   split
   ·simp only[List.mem_cons,ZgJ (l:=l)]
    constructor
    ·rintro (h | h | h)<;>simp[h]
    ·rintro (h | h | h)<;>simp[h]
   ·split
    ·rename_i h;subst h;simp
    ·simp
theorem ZsH{c:Zc}:∀ {l:List Zc},ZgB c.1→K3 l→SS l→SS (Zh4 c l)
 | [],_,_,_=>List.pairwise_singleton _ _
 | d::l,hc,hk,h=>by
   obtain⟨h1,h2⟩:=List.pairwise_cons.1 h
   simp only[Zh4]
   split
   ·rename_i hd
    refine List.pairwise_cons.2 ⟨fun x hx=>?_,ZsH hc (fun x hx=>hk x (by simp[hx])) h2⟩
    rcases ZgJ.1 hx with rfl | hx
    ·exact hd
    ·exact h1 x hx
   ·rename_i hd
    split
    ·exact h
    ·rename_i he
     have hlt:Zh3 c d < 0:=by
      have:=Zc5.1 c d
      have:Zh3 d c≠0:=fun e=>he (Zl5 (hk d (by simp)) hc e)
      omega
     refine List.pairwise_cons.2 ⟨fun x hx=>?_,h⟩
     rcases List.mem_cons.1 hx with rfl | hx
     ·exact hlt
     ·have:=h1 x hx
      have:=Zc5.2 c d x (by omega) (by omega)
      omega
theorem Zle:∀ {l out:List Zc},K3 l→K3 out→SS out→SS (l.foldl (fun out c=>Zh4 c out) out)∧∀ x,x∈l.foldl (fun out c=>Zh4 c out) out↔x∈l∨x∈out
 | [],out,_,_,h=>⟨h,by simp⟩
 | c::l,out,h1,h2,h=>by
   have hc:=h1 c (by simp)
   obtain⟨g1,g2⟩:=Zle (l:=l) (out:=Zh4 c out) (fun x hx=>h1 x (by simp[hx])) (fun x hx=>by
    rcases ZgJ.1 hx with rfl | hx
    ·exact hc
    ·exact h2 x hx) (ZsH hc h2 h)
   refine⟨g1,fun x=>?_⟩
   rw[List.foldl_cons,g2,ZgJ,List.mem_cons]
   constructor
   ·rintro (h | h | h)<;>simp[h]
   ·rintro ((h | h) | h)<;>simp[h]
theorem Zie{l:List Zc}(h:K3 l):SS (Za8 l):=(Zle h (by intro c hc;simp at hc) List.Pairwise.nil).1
theorem Zc6{l:List Zc}(h:K3 l)(x:Zc):x∈Za8 l↔x∈l:=by
 have:=(Zle h (out:=[]) (by intro c hc;simp at hc) List.Pairwise.nil).2 x
 simpa[Za8] using this
theorem Zki{l m:List Zc}(h:K3 l)(hs:SS m)(hm:∀ c,c∈m↔c∈l):m=Za8 l:=ZrE hs (Zie h) fun c=>by rw[hm,Zc6 h]
def ZcK(out:List Zc)(x:Zc):List Zc:=if out.getLast?=some x then out else out++[x]
def Zf7(l:List Zc):List Zc:=l.foldl ZcK []
theorem Zlx:∀ {l out:List Zc},K3 l→K3 out→SS out→l.Pairwise (fun a b=>Zh3 a b≤0)→(∀ a∈out,∀ b∈l,Zh3 a b≤0)→SS (l.foldl ZcK out)∧∀ x,x∈l.foldl ZcK out↔x∈l∨x∈out
 | [],out,_,_,h,_,_=>⟨h,by simp⟩
 | c::l,out,h1,h2,h,h3,h4=>by
   obtain⟨h3a,h3b⟩:=List.pairwise_cons.1 h3
   have h1':K3 l:=fun x hx=>h1 x (by simp[hx])
   rw[List.foldl_cons]
   by_cases e:out.getLast?=some c
   ·rw[show ZcK out c=out by rw[ZcK,if_pos e]]
    obtain⟨g1,g2⟩:=Zlx h1' h2 h h3b fun a ha b hb=>h4 a ha b (by simp[hb])
    refine⟨g1,fun x=>?_⟩
    have hmem:c∈out:=List.mem_of_getLast? e
    rw[g2,List.mem_cons]
    constructor
    ·rintro (h | h)<;>simp[h]
    ·rintro ((h | h) | h)
     ·subst h;exact .inr hmem
     ·exact .inl h
     ·exact .inr h
   ·rw[show ZcK out c=out++[c] by rw[ZcK,if_neg e]]
    have hlt:∀ a∈out,Zh3 a c < 0:=by
     intro a ha
     have h5:=h4 a ha c (by simp)
     rcases Int.lt_or_eq_of_le h5 with h6 | h6
     ·exact h6
     ·have hac:=Zl5 (h2 a ha) (h1 c (by simp)) h6
      subst hac
      rcases List.eq_nil_or_concat out with h7 | ⟨i,z,h7⟩
      ·subst h7;simp at ha
      ·rw[List.concat_eq_append] at h7
       subst h7
       rw[List.getLast?_append] at e
       simp only[List.getLast?_singleton,Option.some_or,Option.some.injEq] at e
       have h8:=(List.pairwise_append.1 h).2.2
       rcases List.mem_append.1 ha with ha | ha
       ·have h9:=h8 a ha z (by simp)
        have h10:=h4 z (by simp) a (by simp)
        have:=Zc5.1 a z
        omega
       ·simp only[List.mem_singleton] at ha
        exact absurd ha.symm e
    obtain⟨g1,g2⟩:=Zlx (out:=out++[c]) h1' (fun x hx=>by
     rcases List.mem_append.1 hx with hx | hx
     ·exact h2 x hx
     ·simp only[List.mem_singleton] at hx;subst hx;exact h1 x (by simp)) (List.pairwise_append.2 ⟨h,List.pairwise_singleton _ _,fun a ha b hb=>by
      simp only[List.mem_singleton] at hb;subst hb;exact hlt a ha⟩) h3b (fun a ha b hb=>by
     rcases List.mem_append.1 ha with ha | ha
     ·exact h4 a ha b (by simp[hb])
     ·simp only[List.mem_singleton] at ha;subst ha;exact h3a b hb)
    refine⟨g1,fun x=>?_⟩
    rw[g2,List.mem_append,List.mem_singleton,List.mem_cons]
    constructor
    ·rintro (h | h | h)<;>simp[h]
    ·rintro ((h | h) | h)<;>simp[h]
theorem ZtQ{l b:List Zc}(hk:K3 l)(hp:l.Perm b)(hs:Zfy Zh3 b):Zf7 b=Za8 l:=by
 have hk':K3 b:=fun c hc=>hk c (hp.mem_iff.2 hc)
 obtain⟨g1,g2⟩:=Zlx (out:=[]) hk' (by intro c hc;simp at hc) List.Pairwise.nil (hs.imp fun {a b} h=>by have:=Zc5.1 a b;omega) (by intro a ha;simp at ha)
 refine Zki hk g1 fun c=>?_
 have:=g2 c
 rw[hp.mem_iff]
 simpa[Zf7] using this
theorem Zlz(out:List Zc)(x:Zc):(ZcK out x).getLast?=some x:=by
 unfold ZcK
 split
 ·assumption
 ·simp
theorem Ze4{n g:Int}(h:ZeD n):ZeD (n.tdiv g):=by
 have:=ZcY n g
 unfold ZeD at *
 omega
theorem ZsB{n:Int}{g:Nat}(hg:0 < g)(h:ZeD n):ZeD (n / (g:Int)):=by
 unfold ZeD at *
 have h1:=Int.emod_add_mul_ediv n g
 have h2:=Int.emod_nonneg n (show (g:Int)≠0 by omega)
 have h3:=Int.emod_lt_of_pos n (show (0:Int) < g by omega)
 have h4:(1:Int)≤g:=by omega
 generalize n / (g:Int)=q at *
 constructor
 ·apply Int.le_of_not_gt
  intro hq
  have:(g:Int)*q≤1*q:=by
   have:=Int.mul_le_mul_of_nonpos_right h4 (show q≤0 by omega)
   omega
  have h5:(g:Int)*(q+1)≤1*(q+1):=Int.mul_le_mul_of_nonpos_right h4 (show q+1≤0 by omega)
  rw[Int.mul_add] at h5
  omega
 ·apply Int.le_of_not_gt
  intro hq
  have h5:1*q≤(g:Int)*q:=Int.mul_le_mul_of_nonneg_right h4 (show 0≤q by omega)
  omega
theorem ZpD{n m:Int}(h1:1≤m)(h2:m≤2305843009213693952):ZeD (n % m):=by
 have h2:=Int.emod_nonneg n (show m≠0 by omega)
 have h3:=Int.emod_lt_of_pos n (show (0:Int) < m by omega)
 unfold ZeD;omega
theorem ZuG{c:Zc}(h:condB c)(h0:(ZbF c).2=0):condB (ZbF c).1:=by
 obtain⟨hk,h1,h2,h3⟩:=h
 have hs:∀ b,(Zc1 b).2≠0:=fun b=>by cases b<;>simp[Zc1]
 unfold ZbF at h0 ⊢
 rcases hk with hk | hk | ⟨hk,hm1,hm2⟩
 ·simp only[hk,if_true] at h0 ⊢
  unfold geF at h0 ⊢
  by_cases hg:Zbi c.2.2.1=0
  ·rw[if_pos hg] at h0;exact absurd h0 (hs _)
  ·rw[if_neg hg]
   refine⟨.inl rfl,by simpa using h1,fun n hn=>?_,ZsB (by omega) h3⟩
   obtain⟨m,hm,rfl⟩:=List.mem_map.1 hn
   exact Ze4 (h2 m hm)
 ·simp only[hk,show (1:Int)≠0 by decide,if_true,if_false] at h0 ⊢
  unfold eqF at h0 ⊢
  by_cases hg:Zbi c.2.2.1=0∨c.2.2.2.tmod (Zbi c.2.2.1)≠0
  ·rw[if_pos hg] at h0;exact absurd h0 (hs _)
  ·rw[if_neg hg]
   refine⟨.inr (.inl rfl),by simpa using h1,fun n hn=>?_,Ze4 h3⟩
   obtain⟨m,hm,rfl⟩:=List.mem_map.1 hn
   exact Ze4 (h2 m hm)
 ·simp only[hk,show (2:Int)≠0 by decide,show (2:Int)≠1 by decide,if_false] at h0 ⊢
  unfold Zk6 at h0 ⊢
  split at h0
  ·exact absurd h0 (hs _)
  split at h0
  ·exact absurd h0 (hs _)
  rename_i ha hb
  rw[if_neg ha,if_neg hb]
  have hp:0 < Zcr c:=Zgu hm1 _
  have hle:Zcr c≤c.2.1.toNat:=Zff hm1 _
  refine⟨.inr (.inr ⟨rfl,?_,?_⟩),by simpa using h1,fun n hn=>?_,Ze4 (ZpD hm1 hm2)⟩
  ·show 1≤c.2.1.tdiv (Zcr c)
   rw[Int.tdiv_eq_ediv_of_nonneg (by omega)]
   have:(1:Int)=(Zcr c:Int) / (Zcr c:Int):=(Int.ediv_self (by omega)).symm
   rw[this]
   exact Int.ediv_le_ediv (by omega) (by omega)
  ·have:=ZcY c.2.1 (Zcr c)
   show c.2.1.tdiv (Zcr c)≤_
   omega
  ·simp only[List.map_map,List.mem_map] at hn
   obtain⟨m,hm,rfl⟩:=hn
   exact Ze4 (ZpD hm1 hm2)
theorem condB.k3{c:Zc}(h:condB c):ZgB c.1:=by
 rcases h.1 with h | h | h
 ·exact .inl h
 ·exact .inr (.inl h)
 ·exact .inr (.inr h.1)
def ZfZ(out:List Zc)(c:Zc):Option (List Zc):=if (ZbF c).2 < 0 then none else if (ZbF c).2=0 then some (out++[(ZbF c).1]) else some out
def Zb3(p:List Zc):List Zc:=((p.map ZbF).filter fun r=>decide (r.2=0)).map (·.1)
def ZaP(p:List Zc):Bool:=(p.map ZbF).any fun r=>decide (r.2 < 0)
theorem Zfa:∀ (p out:List Zc),p.foldlM ZfZ out=if ZaP p then none else some (out++Zb3 p)
 | [],out=>by simp[ZaP,Zb3]
 | c::p,out=>by
   rw[List.foldlM_cons]
   simp only[ZfZ,ZaP,Zb3,List.map_cons,List.any_cons]
   by_cases h:(ZbF c).2 < 0
   ·simp[h]
   ·have ih:∀ out,p.foldlM ZfZ out=if ZaP p then none else some (out++Zb3 p):=Zfa p
    unfold ZaP Zb3 at ih
    by_cases h2:(ZbF c).2=0
    ·simp only[if_neg h,if_pos h2,Option.bind_eq_bind,Option.bind_some,ih,decide_eq_false h,Bool.false_or]
     simp[h2]
    ·simp only[if_neg h,if_neg h2,Option.bind_eq_bind,Option.bind_some,ih,decide_eq_false h,Bool.false_or]
     simp[h2]
theorem Zpl{p:List Zc}(h:Zay p):Zay (Zb3 p):=by
 refine⟨?_,fun c hc=>?_⟩
 ·have:=List.length_filter_le (fun r:Zc×Int=>decide (r.2=0)) (p.map ZbF)
  have:=h.1
  simp only[Zb3,List.length_map] at *
  omega
 ·simp only[Zb3,List.mem_map,List.mem_filter] at hc
  obtain⟨r,⟨⟨d,hd,rfl⟩,hr⟩,rfl⟩:=hc
  exact ZuG (h.2 d hd) (by simpa using hr)
theorem Zk2{p:List Zc}(h:Zay p):ZuU p:=⟨h.1,fun c hc=>⟨(h.2 c hc).2.1,Zc3 (h.2 c hc).2⟩⟩
theorem Zug{a b:Int}(h:ZeD a)(h2:ZeD b):ZeD (min a b):=by unfold ZeD at *;omega
theorem ZnM{P:Zc→Prop}(hmin:∀ d c,P d→P c→P (ZhU d c.2.2.2)){out:List Zc}{c:Zc}(h:∀ d∈out,P d)(hc:P c):∀ d∈Zbr out c,P d:=by
 intro d hd
 unfold Zbr at hd
 have key:d∈out++[c]→P d:=fun hd=>by
  rcases List.mem_append.1 hd with hd | hd
  ·exact h d hd
  ·simp only[List.mem_singleton] at hd;subst hd;exact hc
 split at hd
 ·exact key hd
 ·split at hd
  ·rename_i i hi
   obtain⟨hi,_⟩:=Zhc hi
   rcases List.mem_or_eq_of_mem_set hd with hd | hd
   ·exact h d hd
   ·subst hd
    exact hmin _ _ (h _ (Zi (d:=Za) hi)) hc
  ·exact key hd
theorem Zig{P:Zc→Prop}(hmin:∀ d c,P d→P c→P (ZhU d c.2.2.2)){l:List Zc}(h:∀ d∈l,P d):∀ d∈ZbM l,P d:=by
 have key:∀ (l out:List Zc),(∀ d∈out,P d)→(∀ d∈l,P d)→∀ d∈l.foldl Zbr out,P d:=by
  intro l
  induction l with
  | nil=>exact fun out h _=>h
  | cons c l ih=>exact fun out h h2=>ih _ (ZnM hmin h (h2 c (by simp))) fun d hd=>h2 d (by simp[hd])
 exact key l [] (by simp) h
theorem Zwo{d c:Zc}(hb:condB d)(hc:condB c):condB (ZhU d c.2.2.2):=⟨hb.1,hb.2.1,hb.2.2.1,Zug hb.2.2.2 hc.2.2.2⟩
theorem Zo6{l:List Zc}(h:Zay l):Zay (ZbM l):=by
 have:=Zhu l []
 have:=h.1
 exact⟨by simp only[ZbM];simp at *;omega,Zig (fun d c=>Zwo) h.2⟩
theorem Zwg{c:Zc}(h:linB c.2.2):condB (ZbF (1,0,c.2.2)).1:=by
 have hb:condB (1,0,c.2.2):=⟨.inr (.inl rfl),h⟩
 by_cases h0:(ZbF (1,0,c.2.2)).2=0
 ·exact ZuG hb h0
 ·have hd:condB Za:=⟨.inl rfl,by simp,by simp,(by unfold ZeD;omega:ZeD 0)⟩
  have:(ZbF (1,0,c.2.2)).1=Za:=by
   simp only[ZbF,show (1:Int)≠0 by decide,if_true,if_false] at h0 ⊢
   unfold eqF at h0 ⊢
   split
   ·simp[Zc1]
   ·rename_i h1
    rw[if_neg h1] at h0
    exact absurd rfl h0
  rw[this];exact hd
theorem ZpV{P:Zc→Prop}(heq:∀ c,c.1=0→P c→P (ZbF (1,0,c.2.2)).1){l:List Zc}{st st':List Zc×(Int→Option Bool)}{ic:Nat×Zc}(h:Zci l st ic=some st')(h1:∀ d∈st.1,P d)(h2:P ic.2):∀ d∈st'.1,P d:=by
 have key:∀ x,P x→∀ d∈st.1++[x],P d:=fun x hx d hd=>by
  rcases List.mem_append.1 hd with hd | hd
  ·exact h1 d hd
  ·simp only[List.mem_singleton] at hd;subst hd;exact hx
 unfold Zci at h
 split at h
 ·cases h;exact h1
 ·split at h
  ·cases h;exact key _ h2
  ·rename_i j hj
   have h0:ic.2.1=0:=by
    rcases Decidable.em (ic.2.1=0) with h0 | h0
    ·exact h0
    ·rw[if_pos h0] at hj;cases hj
   split at h
   ·cases h
   ·split at h
    ·cases h;exact key _ (heq _ h0 h2)
    ·cases h;exact key _ h2
theorem ZnG{P:Zc→Prop}(heq:∀ c,c.1=0→P c→P (ZbF (1,0,c.2.2)).1){l:List Zc}:∀ {m:List (Nat×Zc)} {st st':List Zc×(Int→Option Bool)},m.foldlM (Zci l) st=some st'→(∀ d∈st.1,P d)→(∀ ic∈m,P ic.2)→∀ d∈st'.1,P d
 | [],st,st',h,h1,_=>by cases h;exact h1
 | x::m,st,st',h,h1,h2=>by
   simp only[List.foldlM_cons,Option.bind_eq_bind,Option.bind_eq_some_iff] at h
   obtain⟨s,h3,h4⟩:=h
   exact ZnG heq h4 (ZpV heq h3 h1 (h2 x (by simp))) fun ic hic=>h2 ic (by simp[hic])
theorem ZiK{l:List Zc}{ic:Nat×Zc}(h:ic∈Zdb l):ic.2∈l:=by
 simp only[Zdb,List.mem_map,List.mem_range] at h
 obtain⟨i,hi,rfl⟩:=h
 exact Zi hi
theorem ZqV{l out:List Zc}(h:Zay l)(hp:ZeO l=some out):Zay out:=by
 unfold ZeO at hp
 rw[Option.map_eq_some_iff] at hp
 obtain⟨st,h1,rfl⟩:=hp
 have:=ZiX h1
 rw[Zck] at this
 have h0:=h.1
 refine⟨by simp at this;omega,ZnG (P:=condB) (fun c _ hc=>Zwg hc.2) h1 (by simp) fun ic hic=>h.2 _ (ZiK hic)⟩
theorem Zop{P:Zc→Prop}(heq:∀ c,c.1=0→P c→P (ZbF (1,0,c.2.2)).1){l out:List Zc}(h:∀ d∈l,P d)(hp:ZeO l=some out):∀ d∈out,P d:=by
 unfold ZeO at hp
 rw[Option.map_eq_some_iff] at hp
 obtain⟨st,h1,rfl⟩:=hp
 exact ZnG heq h1 (by simp) fun ic hic=>h _ (ZiK hic)
theorem ZpI(C:List Int)(l:List Zc)(c:Zc):eqK C (l++[c])=if c.1=1∧c.2.2.1=C then some c.2.2.2 else eqK C l:=by
 simp only[eqK,List.reverse_append,List.reverse_singleton,List.singleton_append,List.find?_cons]
 by_cases h:c.1=1∧c.2.2.1=C
 ·rw[if_pos h,decide_eq_true h];rfl
 ·rw[if_neg h,decide_eq_false h]
theorem ZtO{C:List Int}{l:List Zc}{n:Int}(h:eqK C l=some n):∃ c∈l,c.1=1∧c.2.2.1=C∧c.2.2.2=n:=by
 simp only[eqK,Option.map_eq_some_iff] at h
 obtain⟨c,hc,rfl⟩:=h
 have h1:=List.mem_of_find?_eq_some hc
 have h2:=List.find?_some hc
 simp only[decide_eq_true_eq] at h2
 exact⟨c,by simpa using h1,h2.1,h2.2,rfl⟩
theorem ZgE{l:List Zc}:∀ {m out out':List Zc},m.foldlM (ZdZ l) out=some out'→out'.length≤out.length+m.length∧∀ d∈out',d∈out∨d∈m
 | [],out,out',h=>by cases h;simp
 | c::m,out,out',h=>by
   simp only[List.foldlM_cons,Option.bind_eq_bind,Option.bind_eq_some_iff] at h
   obtain⟨s,h3,h4⟩:=h
   obtain⟨h5,h6⟩:=ZgE h4
   have h7:s=out∨s=out++[c]:=by
    unfold ZdZ at h3
    split at h3
    ·cases h3;exact .inr rfl
    ·split at h3
     ·split at h3<;>cases h3;exact .inl rfl
     ·split at h3
      ·split at h3<;>cases h3;exact .inl rfl
      ·cases h3;exact .inr rfl
   rcases h7 with rfl | rfl
   ·refine⟨by simp only[List.length_cons];omega,fun d hd=>?_⟩
    rcases h6 d hd with h | h
    ·exact .inl h
    ·exact .inr (by simp[h])
   ·refine⟨by simp only[List.length_cons,List.length_append,List.length_nil] at *;omega,fun d hd=>?_⟩
    rcases h6 d hd with h | h
    ·rcases List.mem_append.1 h with h | h
     ·exact .inl h
     ·simp only[List.mem_singleton] at h;subst h;exact .inr (by simp)
    ·exact .inr (by simp[h])
theorem ZqZ{l out:List Zc}(h:Zay l)(hs:Zcl l=some out):Zay out:=by
 unfold Zcl at hs
 split at hs
 ·cases hs
 ·obtain⟨h1,h2⟩:=ZgE hs
  have:=h.1
  exact⟨by simp at h1;omega,fun d hd=>(h2 d hd).elim (by simp) (h.2 d)⟩
theorem ZmN{P:Zc→Prop}{l out:List Zc}(h:∀ d∈l,P d)(hs:Zcl l=some out):∀ d∈out,P d:=by
 unfold Zcl at hs
 split at hs
 ·cases hs
 ·exact fun d hd=>((ZgE hs).2 d hd).elim (by simp) (h d)
theorem Z8{α:Type}(o:Option α):o=none∨∃ x,o=some x:=by cases o<;>simp
theorem Zcv(p:List Zc):Z9 p=if ZaP p then ([],true,(0:Int)) else match (ZeO (ZbM (Zb3 p))).bind Zcl with
 | none=>([],true,(0:Int))
 | some out=>if (Zb3 p).any (fun c=>!Zd c)||decide (96 < (Za8 out).length) then ([],false,3) else (Za8 out,false,0):=rfl
theorem ZaF.fn_eq(l:List Zc):ZaF.fn (l,())=(match ZeO l with | none=>([],true) | some out=>(out,false)):=rfl
theorem ZkK{b:List Zc}{i:Nat}(h:i < b.length):Zf7 (b.take (i+1))=ZcK (Zf7 (b.take i)) (b.getD i Za):=by
 rw[Zy Za h,Zf7,List.foldl_append];rfl
theorem ZqH{b:List Zc}{i:Nat}(h:i < b.length):(Zf7 (b.take (i+1))).getLast?=some (b.getD i Za):=by
 rw[ZkK h];exact Zlz _ _
theorem Zku{b:List Zc}{i:Nat}(h:i+1 < b.length):Zf7 (b.take (i+2))=if b.getD (i+1) Za=b.getD i Za then Zf7 (b.take (i+1)) else Zf7 (b.take (i+1))++[b.getD (i+1) Za]:=by
 rw[ZkK h,ZcK,ZqH (by omega)]
 by_cases e:b.getD (i+1) Za=b.getD i Za
 ·rw[if_pos e,if_pos (by rw[e])]
 ·rw[if_neg e,if_neg (fun h=>e (Option.some.inj h).symm)]
theorem Zb.spec(p:List Zc)(hp:Zb.pre (p,())):Zb.wp p (fun r=>r=Zb.fn (p,())):=by
 have hp':Zay p:=hp
 have hl:=hp'.1
 have hQ:Zb.fn (p,())=Z9 p:=rfl
 simp only[Zb.wp,hQ]
 refine Lp.foldO p Za ZfZ [] (by omega) ?_ ?_
 ·intro i out R e e2 hf ht hR1 hR2
  have hb:=hp'.2 _ (Zi (d:=Za) e)
  have hlen:=Zfk (f:=ZfZ) (fun t x t' h=>by
   unfold ZfZ at h
   split at h
   ·cases h
   ·split at h<;>(cases h;simp)) _ _ _ ht
  simp only[List.length_nil,List.length_take] at hlen
  simp only[decide_eq_true e2,Int.toNat_natCast,cond_true]
  refine⟨⟨by omega,by omega⟩,hb,?_⟩
  simp only[ZfZ] at hR1 hR2
  by_cases h1:(ZbF (p.getD i Za)).2 < 0
  ·simp only[ZW.fn,decide_eq_true h1,cond_true]
   have:=hR2 (by rw[if_pos h1])
   rw[Zfa] at this
   rw[Zcv]
   cases hv:ZaP p with
   | true=>rfl
   | false=>rw[hv] at this;cases this
  ·simp only[ZW.fn,decide_eq_false h1,cond_false]
   rw[if_neg h1] at hR1
   by_cases h2:(ZbF (p.getD i Za)).2=0
   ·rw[if_pos h2] at hR1
    simp only[h2,beq_self_eq_true,cond_true]
    exact⟨⟨by simp;omega,by simp;omega⟩,hf,hR1 _ rfl⟩
   ·rw[if_neg h2] at hR1
    simp only[beq_eq_false_iff_ne.2 h2,cond_false]
    exact⟨hf,hR1 _ rfl⟩
 intro raws R hraws
 rw[Zfa] at hraws
 have hv:ZaP p=false:=by
  cases h:ZaP p with
  | true=>rw[h] at hraws;cases hraws
  | false=>rfl
 rw[hv] at hraws
 simp only[Bool.false_eq_true,if_false,List.nil_append,Option.some.injEq] at hraws
 subst hraws
 simp only[Int.lt_irrefl,decide_false,cond_false]
 have hrB:=Zpl hp'
 have htd:Z9 p=match (ZeO (ZbM (Zb3 p))).bind Zcl with
  | none=>([],true,(0:Int))
  | some out=>if (Zb3 p).any (fun c=>!Zd c)||decide (96 < (Za8 out).length) then ([],false,3) else (Za8 out,false,0):=by
  rw[Zcv,hv];rfl
 generalize Zb3 p=l at *
 generalize hT:Z9 p=T at *
 have hlB:=Zo6 hrB
 refine⟨fun _ _=>trivial,Zk2 hrB,hlB,?_⟩
 simp only[ZaF.fn_eq,Za6.fn]
 rcases Z8 (ZeO (ZbM l)) with hpr | ⟨out,hpr⟩
 ·simp only[hpr,cond_true]
  rw[htd,hpr];rfl
 ·simp only[hpr,cond_false]
  rw[hpr] at htd
  simp only[Option.bind_some] at htd
  have hoB:=ZqV hlB hpr
  have hol:=hoB.1
  have hin:∀ i,i < out.length→condB (out.getD i Za):=fun i hi=>hoB.2 _ (Zi hi)
  clear hpr hlB hrB hp' hp
  refine Lp.iter out.length (fun i y=>y.1=(i:Int)∧(out.take i).foldlM Zed []=some (out.take i)∧∀ C,y.2 (Zce (ZeB C 1))=eqK C (out.take i)) ⟨rfl,rfl,fun C=>rfl⟩ ?_
  rintro i ⟨y,m⟩ hle ⟨hy,hf,hm⟩ R hR
  simp only at hy hm
  subst hy
  by_cases e:i < out.length
  ·have hb:=hin i e
   have hts:=Zy Za e
   have hfs:(out.take (i+1)).foldlM Zed []=Zed (out.take i) (out.getD i Za):=by
    rw[hts,List.foldlM_append,hf]
    show (Zed _ _).bind _=_
    cases Zed (out.take i) (out.getD i Za)<;>rfl
   have hvoid:Zed (out.take i) (out.getD i Za)=none→T=([],true,0):=fun h=>by
    have h1:out.foldlM Zed []=none:=by
     rw[← List.take_append_drop (i+1) out,List.foldlM_append,hfs,h];rfl
    rw[htd,Zcl,h1]
   simp only[decide_eq_true (show (i:Int) < (out.length:Int) by omega),Int.toNat_natCast,cond_true]
   refine⟨⟨by omega,by omega⟩,?_⟩
   by_cases hk:(out.getD i Za).1=1
   ·simp only[hk,bne_self_eq_false,cond_false,ZaO.fn]
    have hg:∀ b:Bool,(b=true→b=true∧True):=fun b h=>⟨h,trivial⟩
    refine⟨⟨hb.2.1,Zc3 hb.2,.inl rfl⟩,hg _,hg _,fun h=>⟨h,h,trivial⟩,fun h=>h,?_⟩
    simp only[hm]
    have hstep:Zed (out.take i) (out.getD i Za)=match eqK (out.getD i Za).2.2.1 (out.take i) with
     | some n=>if n≠(out.getD i Za).2.2.2 then none else some (out.take i++[out.getD i Za])
     | none=>some (out.take i++[out.getD i Za]):=by
     unfold Zed;exact if_neg fun h=>h hk
    have hnew:∀ C,ZdP m (Zce (ZeB (out.getD i Za).2.2.1 1)) (out.getD i Za).2.2.2 (Zce (ZeB C 1))=eqK C (out.take (i+1)):=fun C=>by
     rw[hts,ZpI]
     simp only[ZdP,Zlt]
     by_cases hC:C=(out.getD i Za).2.2.1
     ·rw[if_pos hC,if_pos ⟨hk,hC.symm⟩]
     ·rw[if_neg hC,if_neg (fun h=>hC h.2.symm)];exact hm C
    cases hq:eqK (out.getD i Za).2.2.1 (out.take i) with
    | none =>
      rw[hq] at hstep
      simp only[Option.isSome_none,Bool.false_and,cond_false]
      refine⟨⟨by omega,by omega⟩,hR e _ ⟨rfl,?_,hnew⟩⟩
      rw[hfs,hstep,hts]
    | some n =>
      rw[hq] at hstep
      simp only[Option.isSome_some,Option.getD_some,Bool.true_and]
      by_cases hn:n=(out.getD i Za).2.2.2
      ·simp only[hn,bne_self_eq_false,cond_false]
       refine⟨⟨by omega,by omega⟩,hR e _ ⟨rfl,?_,hnew⟩⟩
       rw[hfs,hts]
       exact hstep.trans (if_neg fun h=>h hn)
      ·simp only[bne_iff_ne.2 hn,cond_true]
       exact (hvoid (hstep.trans (if_pos hn))).symm
   ·simp only[bne_iff_ne.2 hk,cond_true]
    refine⟨⟨by omega,by omega⟩,hR e _ ⟨rfl,?_,fun C=>?_⟩⟩
    ·rw[hfs,hts];exact if_pos hk
    ·rw[hts,ZpI,if_neg (fun h=>hk h.1)];exact hm C
  have hil:i=out.length:=by omega
  subst hil
  clear hR hle
  simp only[Int.lt_irrefl,decide_false,cond_false]
  rw[List.take_length] at hf hm
  have hst:Zcl out=out.foldlM (ZdZ out) []:=by rw[Zcl,hf]
  rw[hst] at htd
  refine Lp.foldO out Za (ZdZ out) [] (by omega) ?_ ?_
  ·intro i o2 R e e2 hf2 ht hR1 hR2
   have hb:=hin i e
   obtain⟨hlen,_⟩:=ZgE ht
   simp only[List.length_nil,List.length_take] at hlen
   simp only[decide_eq_true e2,Int.toNat_natCast,cond_true]
   refine⟨⟨by omega,by omega⟩,?_⟩
   have hvoid:ZdZ out o2 (out.getD i Za)=none→T=([],true,0):=fun h=>by
    rw[htd,hR2 h]
   clear hR2
   by_cases hk:(out.getD i Za).1=0
   ·simp only[hk,beq_self_eq_true,cond_true,ZaO.fn]
    refine⟨⟨hb.2.1,Zc3 hb.2,.inl rfl⟩,?_⟩
    simp only[Zo4.2 (rfl:Zcm (out.getD i Za).2.2.1=_),hm]
    have hstep:ZdZ out o2 (out.getD i Za)=match eqK (out.getD i Za).2.2.1 out with
     | some n=>if (out.getD i Za).2.2.2 < n then none else some o2
     | none=>match eqK (Zcm (out.getD i Za).2.2.1) out with
       | some n=>if (out.getD i Za).2.2.2+n < 0 then none else some o2
       | none=>some (o2++[out.getD i Za]):=by
     unfold ZdZ;exact if_neg fun h=>h hk
    cases hq:eqK (out.getD i Za).2.2.1 out with
    | some n =>
      rw[hq] at hstep
      simp only[Option.isSome_some,Option.getD_some,cond_true] at hstep ⊢
      by_cases hn:(out.getD i Za).2.2.2 < n
      ·simp only[decide_eq_true hn,cond_true]
       exact (hvoid (by rw[hstep,if_pos hn])).symm
      ·simp only[decide_eq_false hn,cond_false]
       exact⟨hf2,hR1 _ (by rw[hstep,if_neg hn])⟩
    | none =>
      rw[hq] at hstep
      simp only[Option.isSome_none,cond_false] at hstep ⊢
      refine⟨⟨hb.2.1,Zc3 hb.2,.inr rfl⟩,?_⟩
      cases hq2:eqK (Zcm (out.getD i Za).2.2.1) out with
      | some n =>
        rw[hq2] at hstep
        obtain⟨d,hd,_,_,hd3⟩:=ZtO hq2
        have q1:=(hoB.2 d hd).2.2.2
        have q2:=hb.2.2.2
        rw[hd3] at q1
        unfold ZeD at q1 q2
        simp only[Option.isSome_some,Option.getD_some,cond_true] at hstep ⊢
        refine⟨⟨by omega,by omega⟩,?_⟩
        by_cases hn:(out.getD i Za).2.2.2+n < 0
        ·simp only[decide_eq_true hn,cond_true]
         exact (hvoid (by rw[hstep,if_pos hn])).symm
        ·simp only[decide_eq_false hn,cond_false]
         exact⟨hf2,hR1 _ (by rw[hstep,if_neg hn])⟩
      | none =>
        rw[hq2] at hstep
        simp only[Option.isSome_none,cond_false] at hstep ⊢
        exact⟨⟨by simp;omega,by simp;omega⟩,hf2,hR1 _ hstep⟩
   ·simp only[beq_eq_false_iff_ne.2 hk,cond_false]
    exact⟨⟨by simp;omega,by simp;omega⟩,hf2,hR1 _ (if_pos hk)⟩
  intro res R hres
  simp only[Int.lt_irrefl,decide_false,cond_false]
  rw[hres] at htd
  simp only at htd
  obtain⟨hrl,hrm⟩:=ZgE hres
  simp only[List.length_nil,Nat.zero_add] at hrl
  have hk3:K3 res:=fun d hd=>((hrm d hd).elim (by simp) fun h=>(hoB.2 d h).k3)
  clear hres hst hm hf hin hrm
  refine⟨⟨by omega,fun a ha b hb=>⟨hk3 a ha,hk3 b hb⟩⟩,fun b8 hb8=>?_⟩
  obtain⟨hperm,hsort⟩:=hb8
  have hcf:=ZtQ hk3 hperm hsort
  have hbl:b8.length≤1048576:=by have:=hperm.length_eq;omega
  have hb3:∀ i,i < b8.length→ZgB (b8.getD i Za).1:=fun i hi=>hk3 _ (hperm.mem_iff.2 (Zi hi))
  rw[← hcf] at htd
  clear hcf hperm hsort hrl hk3
  have hfin:∀ (b:Bool) (r:List Zc),b=(l.any fun c=>!Zd c)→r=Zf7 b8→(cond (b||decide ((96:Int) < (r.length:Int))) ((([]:List Zc),false,(3:Int))=T) ((r,false,(0:Int))=T)):=by
   rintro b r rfl rfl
   rw[htd]
   have e:decide ((96:Int) < ((Zf7 b8).length:Int))=decide (96 < (Zf7 b8).length):=decide_eq_decide.2 (by omega)
   rw[e]
   cases h:((l.any fun c=>!Zd c)||decide (96 < (Zf7 b8).length))<;>rfl
  have hg:∀ b:Bool,(b=true→b=true∧True):=fun b h=>⟨h,trivial⟩
  have hg2:∀ b:Bool,(b=false→(!b)=true):=fun b h=>by rw[h];rfl
  by_cases hs:b8.length < 2
  ·simp only[decide_eq_true (show ((b8.length:Nat):Int) < 2 by omega),cond_true]
   refine⟨hg _,hg _,hg2 _,hfin _ _ rfl ?_⟩
   match b8,hs with
   | [],_=>rfl
   | [x],_=>rfl
  simp only[decide_eq_false (show ¬ ((b8.length:Nat):Int) < 2 by omega),cond_false]
  refine Lp.iter (b8.length - 1) (fun i y=>y=(i:Int)+1∧Zf7 (b8.take (i+1))=b8.take (i+1)) ⟨rfl,?_⟩ ?_
  ·match b8,hs with
   | x::b,_=>rfl
   | [],h=>exact absurd (by simp) h
  rintro i y hle ⟨rfl,hc⟩ R hR
  by_cases e:i+1 < b8.length
  ·have t1:((i:Int)+1).toNat=i+1:=by omega
   have t2:((i:Int)+1 - 1).toNat=i:=by omega
   simp only[decide_eq_true (show (i:Int)+1 < (b8.length:Int) by omega),cond_true,t1,t2]
   have k1:=hb3 (i+1) e
   have k2:=hb3 i (by omega)
   have hcs:=Zku e
   refine⟨⟨by omega,by omega⟩,by omega,⟨by omega,by omega⟩,⟨by omega,by omega⟩,by omega,⟨k1,k2⟩,?_⟩
   by_cases heq:b8.getD (i+1) Za=b8.getD i Za
   ·have:(Zh3 (b8.getD (i+1) Za) (b8.getD i Za) == 0)=true:=by rw[heq,ZgR];rfl
    simp only[Zaz.fn,this,cond_true]
    rw[if_pos heq] at hcs
    refine⟨⟨by omega,by omega⟩,?_⟩
    clear hR
    refine Lp.iter (b8.length - (i+1) - 1) (fun k y=>y.1=(k:Int)+1∧∃ n:Nat,y.2.1=(n:Int)∧n≤i+1+k∧y.2.2.length=b8.length∧Zf7 (b8.take (i+1+k+1))=y.2.2.take n∧∀ j,i+1+k≤j→y.2.2.getD j Za=b8.getD j Za) ⟨rfl,i+1,rfl,by omega,rfl,by rw[← hc,← hcs],fun j _=>rfl⟩ ?_
    rintro k ⟨y1,y2,a⟩ hle2 ⟨hy1,n,hy2,hn,hal,hca,hget⟩ R2 hR2
    simp only at hy1 hy2 hal hca hget
    subst hy1 hy2
    by_cases e2:i+1+k+1 < b8.length
    ·have t3:((k:Int)+1).toNat=k+1:=by omega
     have t4:((k:Int)+1 - 1).toNat=k:=by omega
     simp only[decide_eq_true (show (k:Int)+1 < ((b8.length - (i+1):Nat):Int) by omega),cond_true,t3,t4,Int.toNat_natCast,Nat.zero_add]
     have g1:a.getD (i+1+(k+1)) Za=b8.getD (i+1+k+1) Za:=hget _ (by omega)
     have g2:a.getD (i+1+k) Za=b8.getD (i+1+k) Za:=hget _ (by omega)
     simp only[g1,g2]
     have k3:=hb3 (i+1+k+1) e2
     have k4:=hb3 (i+1+k) (by omega)
     have hcs2:=Zku e2
     refine⟨⟨by omega,by omega,by omega⟩,by omega,⟨by omega,by omega⟩,⟨by omega,by omega,by omega⟩,by omega,⟨k3,k4⟩,?_⟩
     by_cases heq2:b8.getD (i+1+k+1) Za=b8.getD (i+1+k) Za
     ·have:(Zh3 (b8.getD (i+1+k+1) Za) (b8.getD (i+1+k) Za) == 0)=true:=by rw[heq2,ZgR];rfl
      simp only[Zaz.fn,this,Bool.not_true,cond_false]
      rw[if_pos heq2] at hcs2
      refine⟨⟨by omega,by omega⟩,hR2 (by omega) _ ⟨by simp,n,rfl,by omega,hal,?_,fun j hj=>hget j (by omega)⟩⟩
      rw[show i+1+(k+1)+1=i+1+k+2 by omega,hcs2,hca]
     ·have:(Zh3 (b8.getD (i+1+k+1) Za) (b8.getD (i+1+k) Za) == 0)=false:=beq_eq_false_iff_ne.2 fun h=>heq2 (Zl5 k3 k4 h)
      simp only[Zaz.fn,this,Bool.not_false,cond_true]
      rw[if_neg heq2] at hcs2
      refine⟨⟨by omega,by omega,by omega⟩,by omega,⟨by omega,by omega⟩,by omega,⟨by omega,by omega⟩,⟨by omega,by omega⟩,hR2 (by omega) _ ⟨by simp,n+1,by simp,by omega,by simp[hal],?_,fun j hj=>?_⟩⟩
      ·rw[show i+1+(k+1)+1=i+1+k+2 by omega,hcs2,hca]
       simp only
       rw[List.take_set,List.take_add_one,List.set_append_right _ _ (by simp;omega)]
       have hnn:n - (a.take n).length=0:=by simp;omega
       rw[hnn,List.getElem?_eq_getElem (show n < a.length by omega)]
       rfl
      ·simp only
       rw[List.getD_eq_getElem?_getD,List.getElem?_set_ne (by omega),← List.getD_eq_getElem?_getD]
       exact hget j (by omega)
    ·have hk:i+1+k+1=b8.length:=by omega
     simp only[decide_eq_false (show ¬ (k:Int)+1 < ((b8.length - (i+1):Nat):Int) by omega),cond_false,Int.toNat_natCast,Nat.zero_add]
     rw[hk,List.take_length] at hca
     have hdr:List.drop (n+(a.length - n)) a=[]:=List.drop_eq_nil_of_le (by omega)
     simp only[hdr,List.append_nil,List.drop_zero]
     have htk:List.take n (a.take n++List.replicate (a.length - n) Za)=a.take n:=by
      rw[List.take_append_of_le_length (by simp;omega),List.take_take,Nat.min_self]
     have hln:(a.take n++List.replicate (a.length - n) Za).length=a.length:=by simp;omega
     simp only[htk,hln]
     exact⟨⟨by omega,by omega⟩,by omega,⟨by omega,by omega⟩,by omega,hg _,hg _,hg2 _,hfin _ _ rfl hca.symm⟩
   ·have:(Zh3 (b8.getD (i+1) Za) (b8.getD i Za) == 0)=false:=beq_eq_false_iff_ne.2 fun h=>heq (Zl5 k1 k2 h)
    simp only[Zaz.fn,this,cond_false]
    rw[if_neg heq] at hcs
    refine⟨⟨by omega,by omega⟩,hR (by omega) _ ⟨by omega,?_⟩⟩
    rw[hcs,hc,Zy Za e]
  ·have hi:i+1=b8.length:=by omega
   simp only[decide_eq_false (show ¬ (i:Int)+1 < (b8.length:Int) by omega),cond_false]
   rw[hi,List.take_length] at hc
   exact⟨hg _,hg _,hg2 _,hfin _ _ rfl hc.symm⟩
abbrev Zh.fn(x:List (List Zc)×Unit):List Zc:=x.1.flatten
abbrev Zh.pre(x:List (List Zc)×Unit):Prop:=x.1.length≤1048576∧x.1.flatten.length≤1048576
def Z6(out:List (List Zc))(p:List Zc):Option (List (List Zc)) :=
 if (Z9 p).2.2≠0 then none else if (Z9 p).2.1=true∨(Z9 p).1∈out then some out else if 400 < out.length+1 then none else some (out++[(Z9 p).1])
def ZdX(l:List (List Zc)):Option (List (List Zc)):=l.foldlM Z6 []
def ZfJ(n:Int)(o:Option (List (List Zc))):ZbZ×Int:=match o with
 | none=>((0,[]),3)
 | some out=>((n,out),0)
def Zaa(x:ZbZ):ZbZ×Int:=if Zr x=false then ((0,[]),1) else ZfJ x.1 (ZdX x.2)
abbrev ZH.fn(x:ZbZ×Unit):ZbZ×Int:=Zaa x.1
def Zcp(a b:List Zc)(out:List (List Zc))(i:Nat):Option (List (List Zc)) :=
 if (Zgo (b.getD i Za)).2≠0 then none else some (out++(Zgo (b.getD i Za)).1.map fun o=>a++(b.take i++[o]))
def Zf6(a b:List Zc):List (List Zc)×Int:=if (Z9 (a++b)).2.2≠0 then ([],3) else if (Z9 (a++b)).2.1=true then ([a],0) else match (List.range b.length).foldlM (Zcp a b) [] with
 | none=>([],3)
 | some out=>(out,0)
def Zcb(p:List Zc):Prop:=p.length≤4096∧∀ c∈p,Zd c=true
abbrev Zb5.fn(x:List Zc×List Zc×Unit):List (List Zc)×Int:=Zf6 x.1 x.2.1
abbrev Zb5.pre(x:List Zc×List Zc×Unit):Prop:=Zcb x.1∧Zcb x.2.1
def Zd1(cur:List (List Zc))(b:List Zc):Option (List (List Zc)) :=
 cur.foldlM (fun out a=>if (Zf6 a b).2≠0 then none else (Zf6 a b).1.foldlM Z6 out) []
def ZcE(x y:ZbZ):ZbZ×Int:=if Zd7 x y≠0 then ((0,[]),Zd7 x y) else if (Zaa x).2≠0∨(Zaa y).2≠0 then ((0,[]),3) else ZfJ x.1 ((Zaa y).1.2.foldlM Zd1 (Zaa x).1.2)
abbrev ZbI.fn(x:ZbZ×ZbZ×Unit):ZbZ×Int:=ZcE x.1 x.2.1
def ZfS:List Int→List Int→Int
 | x::a,y::b=>x*y+ZfS a b
 | _,_=>0
def ZgK(c:Zc)(v:Int):Bool:=if c.1=0 then decide (0≤v) else if c.1=1 then v == 0 else v.tmod c.2.1 == 0
def ZH.wp(x0:Int×(List (List Zc)))(Q:(Int×(List (List Zc)))×Int→Prop):Prop:=cond (!(Zao.fn (x0,()))) (Q (((0:Int),([]:List (List (Zc)))),(1:Int))) (Lp (σ:=Int×(List (List (Zc)))×(ByteArray→Option Bool)) (fun y2 R2=>let v0:=List.getD x0.2 (Int.toNat y2.1) ([]:List (Zc));let v1:=Zq.fn ((Zb.fn (v0,())).1,());let v3:=[(Zb.fn (v0,())).1];cond (decide (y2.1 < ((List.length x0.2:Nat):Int))) (((0:Int)≤y2.1∧y2.1 < ((List.length x0.2:Nat):Int))∧(Zb.pre (v0,())∧cond (((Zb.fn (v0,())).2).2 != (0:Int)) (cond (((Zb.fn (v0,())).2).2 != (0:Int)) (Q (((0:Int),([]:List (List (Zc)))),((Zb.fn (v0,())).2).2)) (Q ((x0.1,([]:List (List (Zc)))),(0:Int)))) (((!(((Zb.fn (v0,())).2).1))=true→((!(((Zb.fn (v0,())).2).1))=true∧Zq.pre ((Zb.fn (v0,())).1,())))∧(((!(((Zb.fn (v0,())).2).1))=true→((!(((Zb.fn (v0,())).2).1))=true∧((!(((Zb.fn (v0,())).2).1))=true∧True)))∧((((Zb.fn (v0,())).2).1=false→(!(((Zb.fn (v0,())).2).1))=true)∧cond (((Zb.fn (v0,())).2).1||(Option.getD (y2.2.2 v1) false)) (Zm IntKind.i64 (y2.1+(1:Int))∧R2 ((y2.1+(1:Int)),y2.2)) (Zq.pre ((Zb.fn (v0,())).1,())∧((((List.length y2.2.1+List.length v3)*24)≤140737488355328∧(List.length y2.2.1+List.length v3)≤9223372036854775807)∧cond (decide ((400:Int) < (((List.length (y2.2.1++v3)):Nat):Int))) (Q (((0:Int),([]:List (List (Zc)))),(3:Int))) (Zm IntKind.i64 (y2.1+(1:Int))∧R2 ((y2.1+(1:Int)),((y2.2.1++v3),ZdP y2.2.2 v1 true)))))))))) (Q ((x0.1,y2.2.1),(0:Int)))) ((0:Int),(([]:List (List (Zc))),fun (a2:ByteArray)=>(none:Option Bool))))
def Zh.wp(x0:List (List Zc))(Q:(List Zc)→Prop):Prop:=Lp (σ:=Int×Int) (fun y2 R2=>let v0:=List.getD x0 (Int.toNat y2.1) ([]:List (Zc));cond (decide (y2.1 < ((List.length x0:Nat):Int))) (((0:Int)≤y2.1∧y2.1 < ((List.length x0:Nat):Int))∧(Zm IntKind.i64 (y2.2+((List.length v0:Nat):Int))∧cond (decide ((y2.2+((List.length v0:Nat):Int)) < (0:Int))) False (Zm IntKind.i64 (y2.1+(1:Int))∧R2 ((y2.1+(1:Int)),(y2.2+((List.length v0:Nat):Int)))))) (cond (decide (y2.2 < (0:Int))) False (Zm IntKind.i64 ((0:Int) - (0:Int))∧(Zm IntKind.i64 (y2.2 - ((0:Int) - (0:Int)))∧cond (decide ((0:Int) < (y2.2 - ((0:Int) - (0:Int))))) (((0:Int)≤(0:Int)∧(0:Int)≤((0:Nat):Int))∧(((0:Int)≤(y2.2 - ((0:Int) - (0:Int)))∧(((y2.2 - ((0:Int) - (0:Int)))*((48:Nat):Int))≤(140737488355328:Int)∧(y2.2 - ((0:Int) - (0:Int)))≤(9223372036854775807:Int)))∧(((0:Int)≤(0:Int)∧(0:Int)≤((List.length (List.replicate (Int.toNat (y2.2 - ((0:Int) - (0:Int)))) Za):Nat):Int))∧Lp (σ:=Int×List (Zc)) (fun y4 R4=>let v3:=List.getD x0 (Int.toNat y4.1) ([]:List (Zc));cond (decide (y4.1 < ((List.length x0:Nat):Int))) (((0:Int)≤y4.1∧y4.1 < ((List.length x0:Nat):Int))∧((((List.length y4.2+List.length v3)*48)≤140737488355328∧(List.length y4.2+List.length v3)≤9223372036854775807)∧(Zm IntKind.i64 (y4.1+(1:Int))∧R4 ((y4.1+(1:Int)),(y4.2++v3))))) (Q y4.2)) ((0:Int),([]:List (Zc)))))) (Lp (σ:=Int×List (Zc)) (fun y4 R4=>let v3:=List.getD x0 (Int.toNat y4.1) ([]:List (Zc));cond (decide (y4.1 < ((List.length x0:Nat):Int))) (((0:Int)≤y4.1∧y4.1 < ((List.length x0:Nat):Int))∧((((List.length y4.2+List.length v3)*48)≤140737488355328∧(List.length y4.2+List.length v3)≤9223372036854775807)∧(Zm IntKind.i64 (y4.1+(1:Int))∧R4 ((y4.1+(1:Int)),(y4.2++v3))))) (Q y4.2)) ((0:Int),([]:List (Zc)))))))) ((0:Int),(0:Int))
def Zb5.wp(x0:List Zc)(x1:List Zc)(Q:(List (List Zc))×Int→Prop):Prop:=let v0:=Zh.fn ([x0,x1],());(Zh.pre ([x0,x1],())∧(Zb.pre (v0,())∧cond (((Zb.fn (v0,())).2).2 != (0:Int)) (Q (([]:List (List (Zc))),((Zb.fn (v0,())).2).2)) (cond (((Zb.fn (v0,())).2).1) (Q ([x0],(0:Int))) (Lp (σ:=Int×List (List (Zc))) (fun y3 R3=>let v2:=ZaX.fn ((List.getD x1 (Int.toNat y3.1) Za),());let v3:=List.take (Int.toNat y3.1) x1;cond (decide (y3.1 < ((List.length x1:Nat):Int))) (((0:Int)≤y3.1∧y3.1 < ((List.length x1:Nat):Int))∧cond (v2.2 != (0:Int)) (Q (([]:List (List (Zc))),v2.2)) (Lp (σ:=Int×List (List (Zc))) (fun y5 R5=>let v4:=List.getD v2.1 (Int.toNat y5.1) Za;let v5:=Zh.fn ([x0,v3,[v4]],());cond (decide (y5.1 < ((List.length v2.1:Nat):Int))) (((0:Int)≤y5.1∧y5.1 < ((List.length v2.1:Nat):Int))∧(((0:Int)≤y3.1∧y3.1≤((List.length x1:Nat):Int))∧(Zh.pre ([x0,v3,[v4]],())∧((((List.length y5.2+List.length [v5])*24)≤140737488355328∧(List.length y5.2+List.length [v5])≤9223372036854775807)∧(Zm IntKind.i64 (y5.1+(1:Int))∧R5 ((y5.1+(1:Int)),(y5.2++[v5]))))))) (Zm IntKind.i64 (y3.1+(1:Int))∧R3 ((y3.1+(1:Int)),y5.2))) ((0:Int),y3.2))) (Q (y3.2,(0:Int)))) ((0:Int),([]:List (List (Zc))))))))
def ZbI.wp(x0:Int×(List (List Zc)))(x1:Int×(List (List Zc)))(Q:(Int×(List (List Zc)))×Int→Prop):Prop:=let v0:=ZbG.fn (x0,(x1,()));let v1:=List.length (((ZH.fn (x1,())).1).2);cond (v0 != (0:Int)) (Q (((0:Int),([]:List (List (Zc)))),v0)) (((!((ZH.fn (x0,())).2 != (0:Int)))=true→((!((ZH.fn (x0,())).2 != (0:Int)))=true∧True))∧((((ZH.fn (x0,())).2 != (0:Int))=false→(!((ZH.fn (x0,())).2 != (0:Int)))=true)∧cond (((ZH.fn (x0,())).2 != (0:Int))||((ZH.fn (x1,())).2 != (0:Int))) (Q (((0:Int),([]:List (List (Zc)))),(3:Int))) (Lp (σ:=Int×Int×Int×(List (List (Zc)))×Int) (fun y3 R3=>let v3:=List.getD (((ZH.fn (x1,())).1).2) (Int.toNat y3.1) ([]:List (Zc));cond (decide (y3.1 < ((v1:Nat):Int))) (((0:Int)≤y3.1∧y3.1 < ((v1:Nat):Int))∧Lp (σ:=Int×(List (List (Zc)))×(ByteArray→Option Bool)) (fun y5 R5=>let v2:=List.getD y3.2.2.2.1 (Int.toNat y5.1) ([]:List (Zc));let v4:=Zb5.fn (v2,(v3,()));cond (decide (y5.1 < ((List.length y3.2.2.2.1:Nat):Int))) (((0:Int)≤y5.1∧y5.1 < ((List.length y3.2.2.2.1:Nat):Int))∧(Zb5.pre (v2,(v3,()))∧cond (v4.2 != (0:Int)) (((!((0:Int) != (0:Int)))=true→((!((0:Int) != (0:Int)))=true∧True))∧((((0:Int) != (0:Int))=false→(!((0:Int) != (0:Int)))=true)∧cond (((0:Int) != (0:Int))||(v4.2 != (0:Int))) (Q (((0:Int),([]:List (List (Zc)))),(3:Int))) (Zm IntKind.i64 (y3.1+(1:Int))∧R3 ((y3.1+(1:Int)),((0:Int),(x0.1,(y5.2.1,v4.2))))))) (Lp (σ:=Int×(List (List (Zc)))×(ByteArray→Option Bool)) (fun y7 R7=>let v5:=List.getD v4.1 (Int.toNat y7.1) ([]:List (Zc));let v6:=Zq.fn ((Zb.fn (v5,())).1,());let v8:=[(Zb.fn (v5,())).1];cond (decide (y7.1 < ((List.length v4.1:Nat):Int))) (((0:Int)≤y7.1∧y7.1 < ((List.length v4.1:Nat):Int))∧(Zb.pre (v5,())∧cond (((Zb.fn (v5,())).2).2 != (0:Int)) (cond (((Zb.fn (v5,())).2).2 != (0:Int)) (((!(((Zb.fn (v5,())).2).2 != (0:Int)))=true→((!(((Zb.fn (v5,())).2).2 != (0:Int)))=true∧True))∧(((((Zb.fn (v5,())).2).2 != (0:Int))=false→(!(((Zb.fn (v5,())).2).2 != (0:Int)))=true)∧cond ((((Zb.fn (v5,())).2).2 != (0:Int))||(y3.2.2.2.2 != (0:Int))) (Q (((0:Int),([]:List (List (Zc)))),(3:Int))) (Zm IntKind.i64 (y3.1+(1:Int))∧R3 ((y3.1+(1:Int)),(((Zb.fn (v5,())).2).2,((0:Int),(([]:List (List (Zc))),y3.2.2.2.2))))))) (((!((0:Int) != (0:Int)))=true→((!((0:Int) != (0:Int)))=true∧True))∧((((0:Int) != (0:Int))=false→(!((0:Int) != (0:Int)))=true)∧cond (((0:Int) != (0:Int))||(y3.2.2.2.2 != (0:Int))) (Q (((0:Int),([]:List (List (Zc)))),(3:Int))) (Zm IntKind.i64 (y3.1+(1:Int))∧R3 ((y3.1+(1:Int)),((0:Int),(x0.1,(([]:List (List (Zc))),y3.2.2.2.2)))))))) (((!(((Zb.fn (v5,())).2).1))=true→((!(((Zb.fn (v5,())).2).1))=true∧Zq.pre ((Zb.fn (v5,())).1,())))∧(((!(((Zb.fn (v5,())).2).1))=true→((!(((Zb.fn (v5,())).2).1))=true∧((!(((Zb.fn (v5,())).2).1))=true∧True)))∧((((Zb.fn (v5,())).2).1=false→(!(((Zb.fn (v5,())).2).1))=true)∧cond (((Zb.fn (v5,())).2).1||(Option.getD (y7.2.2 v6) false)) (Zm IntKind.i64 (y7.1+(1:Int))∧R7 ((y7.1+(1:Int)),y7.2)) (Zq.pre ((Zb.fn (v5,())).1,())∧((((List.length y7.2.1+List.length v8)*24)≤140737488355328∧(List.length y7.2.1+List.length v8)≤9223372036854775807)∧cond (decide ((400:Int) < (((List.length (y7.2.1++v8)):Nat):Int))) (((!((3:Int) != (0:Int)))=true→((!((3:Int) != (0:Int)))=true∧True))∧((((3:Int) != (0:Int))=false→(!((3:Int) != (0:Int)))=true)∧Q (((0:Int),([]:List (List (Zc)))),(3:Int)))) (Zm IntKind.i64 (y7.1+(1:Int))∧R7 ((y7.1+(1:Int)),((y7.2.1++v8),ZdP y7.2.2 v6 true)))))))))) (Zm IntKind.i64 (y5.1+(1:Int))∧R5 ((y5.1+(1:Int)),y7.2))) ((0:Int),y5.2)))) (((!((0:Int) != (0:Int)))=true→((!((0:Int) != (0:Int)))=true∧True))∧((((0:Int) != (0:Int))=false→(!((0:Int) != (0:Int)))=true)∧cond (((0:Int) != (0:Int))||(y3.2.2.2.2 != (0:Int))) (Q (((0:Int),([]:List (List (Zc)))),(3:Int))) (Zm IntKind.i64 (y3.1+(1:Int))∧R3 ((y3.1+(1:Int)),((0:Int),(x0.1,(y5.2.1,y3.2.2.2.2)))))))) ((0:Int),(([]:List (List (Zc))),fun (a5:ByteArray)=>(none:Option Bool)))) (Q ((y3.2.2.1,y3.2.2.2.1),(0:Int)))) ((0:Int),((ZH.fn (x0,())).2,(((ZH.fn (x0,())).1).1,(((ZH.fn (x0,())).1).2,(0:Int))))))))
theorem Zs2{P:Zc→Prop}(hmin:∀ d c,P d→P c→P (ZhU d c.2.2.2))(heq:∀ c,c.1=0→P c→P (ZbF (1,0,c.2.2)).1){p:List Zc}(hb:Zay p)(h:∀ d∈Zb3 p,P d):∀ d∈(Z9 p).1,P d:=by
 rw[Zcv]
 split
 ·simp
 ·rcases Z8 ((ZeO (ZbM (Zb3 p))).bind Zcl) with ho | ⟨out,ho⟩
  ·rw[ho];simp
  ·rw[ho]
   simp only
   split
   ·simp
   ·obtain⟨o1,h1,h2⟩:=Option.bind_eq_some_iff.1 ho
    have k3:K3 out:=by
     have:=ZqZ (ZqV (Zo6 (Zpl hb)) h1) h2
     exact fun c hc=>(this.2 c hc).k3
    intro d hd
    rw[Zc6 k3] at hd
    exact ZmN (Zop heq (Zig hmin h) h1) h2 d hd
theorem ZgL(p:List Zc):(Z9 p).2.2=0∨((Z9 p).2.2=3∧(Z9 p).2.1=false):=by
 rw[Zcv]
 split
 ·exact .inl rfl
 ·split
  ·exact .inl rfl
  ·split
   ·exact .inr ⟨rfl,rfl⟩
   ·exact .inl rfl
theorem ZjC(p:List Zc):(Z9 p).1.length≤96:=by
 rw[Zcv]
 split
 ·simp
 ·split
  ·simp
  ·split
   ·simp
   ·rename_i h
    simp only[Bool.or_eq_true,decide_eq_true_eq,not_or] at h
    simp only;omega
theorem ZrZ{n:Int}:Fit n=true↔-1048576≤n∧n≤1048576:=by simp[Fit]
theorem ZnF{k m K K':Int}{C:List Int}(h:Zd (k,m,C,K)=true)(hK:Fit K'=true):Zd (k,m,C,K')=true:=by
 have key:Z4 (C,K)=true→Z4 (C,K')=true:=by
  intro h
  simp only[Z4,Bool.and_eq_true] at h ⊢
  exact⟨h.1,h.2.1,hK⟩
 simp only[Zd] at *
 split at h
 ·rename_i h0;rw[if_pos h0];simp only[Bool.and_eq_true] at h ⊢;exact⟨h.1,key h.2⟩
 ·rename_i h0
  rw[if_neg h0]
  split at h
  ·rename_i h1;rw[if_pos h1];simp only[Bool.and_eq_true] at h ⊢;exact⟨h.1,key h.2⟩
  ·cases h
theorem Zqu{d c:Zc}(hd:Zd d=true)(hc:Zd c=true):Zd (ZhU d c.2.2.2)=true:=by
 have h1:=(Z4.b (Zd.lin hc)).2.2
 have h2:=(Z4.b (Zd.lin hd)).2.2
 exact ZnF hd (ZrZ.2 (by omega))
theorem Zow:Zd Za=true:=by decide
theorem ZiZ{C:List Int}{K:Int}(h1:C.length≤12)(h2:∀ n∈C,Fit n=true)(h3:Fit K=true):Z4 (C,K)=true:=by
 simp only[Z4,Bool.and_eq_true,List.all_eq_true,decide_eq_true_eq]
 exact⟨h2,by omega,h3⟩
theorem ZtB{C:List Int}{K:Int}(h:Z4 (C,K)=true):Zd (1,0,C,K)=true:=by simp[Zd,h]
theorem Zrx{c:Zc}(h:Z4 c.2.2=true):Zd (ZbF (1,0,c.2.2)).1=true:=by
 simp only[ZbF,show (1:Int)≠0 by decide,if_true,if_false]
 unfold eqF
 split
 ·unfold Zc1;exact Zow
 ·obtain⟨h1,h2,h3⟩:=Z4.b h
  have key:∀ n g:Int,(-1048576≤n∧n≤1048576)→Fit (n.tdiv g)=true:=fun n g hn=>by
   have:=ZcY n g
   rw[ZrZ];omega
  refine ZtB (ZiZ (by simpa using h1) (fun n hn=>?_) (key _ _ h3))
  obtain⟨m,hm,rfl⟩:=List.mem_map.1 hn
  exact key _ _ (h2 m hm)
theorem Zsu{p:List Zc}(h:(Zb3 p).any (fun c=>!Zd c)=true):(Z9 p).1=[]:=by
 rw[Zcv]
 split
 ·rfl
 ·rcases Z8 ((ZeO (ZbM (Zb3 p))).bind Zcl) with ho | ⟨out,ho⟩
  ·rw[ho]
  ·rw[ho]
   simp only[h,Bool.true_or,if_true]
theorem Zit{p:List Zc}(hb:Zay p):∀ d∈(Z9 p).1,Zd d=true:=by
 by_cases h:(Zb3 p).any (fun c=>!Zd c)=true
 ·rw[Zsu h];simp
 ·refine Zs2 (P:=fun d=>Zd d=true) (fun d c=>Zqu) (fun c _ hc=>Zrx (Zd.lin hc)) hb fun d hd=>?_
  cases hc:Zd d with
  | true=>rfl
  | false=>exact absurd (List.any_eq_true.2 ⟨d,hd,by rw[hc];rfl⟩) h
theorem Zpk{p:List Zc}(hb:Zay p):Zcb (Z9 p).1:=⟨by have:=ZjC p;omega,Zit hb⟩
theorem Zcb.B{p:List Zc}(h:Zcb p):Zay p:=⟨by have:=h.1;omega,fun c hc=>Zd.condB (h.2 c hc)⟩
theorem Zcb.name{p:List Zc}(h:Zcb p):nameOk p:=by
 refine⟨by have:=h.1;omega,fun c hc=>?_⟩
 have hv:=h.2 c hc
 obtain⟨h1,h2,h3⟩:=Z4.b (Zd.lin hv)
 refine⟨by omega,fun n hn=>by have:=h2 n hn;omega,fun n hn=>?_⟩
 have hk:=Zd.kind hv
 simp only[List.mem_cons,List.not_mem_nil,or_false] at hn
 rcases hn with rfl | rfl | rfl
 ·omega
 ·omega
 ·omega
theorem Zc8{α:Type}:∀ (l:List (List α)) (i:Nat),(l.take i).flatten.length≤l.flatten.length
 | [],i=>by simp
 | x::l,0=>by simp
 | x::l,i+1=>by
   have:=Zc8 l i
   simp only[List.take_succ_cons,List.flatten_cons,List.length_append];omega
theorem Zcn{α:Type}{l:List (List α)}{i:Nat}(h:i < l.length):(l.take (i+1)).flatten=(l.take i).flatten++l.getD i []:=by
 rw[Zy [] h];simp
theorem Zh.spec(l:List (List Zc))(hp:Zh.pre (l,())):Zh.wp l (fun r=>r=Zh.fn (l,())):=by
 obtain⟨hl,ht⟩:=hp
 simp only at hl ht
 have hfn:Zh.fn (l,())=l.flatten:=rfl
 simp only[Zh.wp,hfn]
 refine Lp.iter l.length (fun i y=>y=((i:Int),(((l.take i).flatten.length:Nat):Int))) rfl ?_
 rintro i y hle rfl R hR
 by_cases e:i < l.length
 ·have h1:=Zc8 l (i+1)
  rw[Zcn e,List.length_append] at h1
  simp only[decide_eq_true (show (i:Int) < (l.length:Int) by omega),Int.toNat_natCast,cond_true,decide_eq_false (show ¬ (((l.take i).flatten.length:Nat):Int)+((l.getD i []).length:Int) < 0 by omega),cond_false]
  refine⟨⟨by omega,by omega⟩,⟨by omega,by omega⟩,⟨by omega,by omega⟩,hR e _ ?_⟩
  rw[Zcn e,List.length_append]
  rfl
 ·have:i=l.length:=by omega
  subst this
  clear hR hle
  have hbuild:∀ {body:Int×List Zc→(Int×List Zc→Prop)→Prop},(∀ i R,i < l.length→(Zm .i64 ((i:Int)+1))→R ((i:Int)+1,(l.take i).flatten++l.getD i [])→body ((i:Int),(l.take i).flatten) R)→(∀ R,body ((l.length:Int),l.flatten) R)→Lp body (0,[]):=by
   intro body hb1 hb2
   refine Lp.iter l.length (fun i y=>y=((i:Int),(l.take i).flatten)) (by simp) ?_
   rintro i y hle rfl R hR
   by_cases e:i < l.length
   ·refine hb1 i R e ⟨by omega,by omega⟩ ?_
    rw[← Zcn e]
    exact hR e _ rfl
   ·have:i=l.length:=by omega
    subst this
    rw[List.take_length]
    exact hb2 R
  simp only[List.take_length,Int.lt_irrefl,decide_false,cond_false,decide_eq_false (show ¬ ((l.flatten.length:Nat):Int) < 0 by omega),Int.sub_zero,Int.sub_self]
  refine⟨⟨by omega,by omega⟩,⟨by omega,by omega⟩,?_⟩
  have hb1:∀ i,i < l.length→(((l.take i).flatten.length+(l.getD i []).length)*48≤140737488355328∧(l.take i).flatten.length+(l.getD i []).length≤9223372036854775807)∧(0≤(i:Int)∧(i:Int) < (l.length:Int)):=fun i hi=>by
   have h1:=Zc8 l (i+1)
   rw[Zcn hi,List.length_append] at h1
   omega
  by_cases h0:0 < l.flatten.length
  ·simp only[decide_eq_true (show (0:Int) < (l.flatten.length:Int) by omega),cond_true]
   refine⟨⟨by omega,by omega⟩,⟨by omega,by omega,by omega⟩,⟨by omega,by omega⟩,hbuild (fun i R hi hf hR=>?_) (fun R=>?_)⟩
   ·simp only[decide_eq_true (show (i:Int) < (l.length:Int) by omega),Int.toNat_natCast,cond_true]
    exact⟨(hb1 i hi).2,(hb1 i hi).1,hf,hR⟩
   ·simp only[Int.lt_irrefl,decide_false,cond_false]
  ·simp only[decide_eq_false (show ¬ (0:Int) < (l.flatten.length:Int) by omega),cond_false]
   refine hbuild (fun i R hi hf hR=>?_) (fun R=>?_)
   ·simp only[decide_eq_true (show (i:Int) < (l.length:Int) by omega),Int.toNat_natCast,cond_true]
    exact⟨(hb1 i hi).2,(hb1 i hi).1,hf,hR⟩
   ·simp only[Int.lt_irrefl,decide_false,cond_false]
end Go.Proofs.YtgpdnmfpgkkgcaaGreatDoor
