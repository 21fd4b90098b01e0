/- Part of a proof that a law of the program holds for every input: what the functions answer, in plain Lean. No conditions. -/
import Derived.Lib.ItoaLen
import Derived.Test.YtldikbpclaeajaaDoorK07
namespace Go.Proofs.YtldikbpclaeajaaDoor
open Go
set_option linter.defProp false
def dP:=@Int.toNat_natCast
def eB:=@Int.lt_irrefl
def eI:=@bne_self_eq_false
def eK:=@decide_false
def eV:=@Option.bind_eq_some_iff
def fA:=@Option.bind_eq_bind
def fF:=@List.foldlM_cons
def fU:=@List.drop_eq_getElem_cons
def fX:=@List.mem_of_mem_take
def gT:=@List.all_eq_true
def gX:=@List.foldlM_append
def hU:=@Option.bind_some
def hZ:=@beq_self_eq_true
def iD:=@Int.emod_lt_of_pos
def iE:=@Option.isSome_some
def iF:=@List.foldl_append
def iH:=@Bool.or_true
def iI:=@List.mem_map
def iN:=@List.drop_length
def iT:=@Int.emod_nonneg
def iV:=@Bool.true_or
def jB:=@List.drop_eq_nil_of_le
def jC:=@Bool.true_and
def jD:=@Bool.not_eq_true
def jE:=@List.set_append_right
def jF:=@Int.mul_le_mul_of_nonpos_right
def jM:=@Int.mul_le_mul_of_nonneg_left
def jZ:=@Bool.or_false
def kB:=@not_true_eq_false
def kF:=@List.flatten_nil
def kH:=@List.not_mem_nil
def kI:=@Prod.ext
def kM:=@List.pairwise_singleton
def kO:=@Int.tmod_nonneg
def kW:=@Bool.not_false
def lE:=@List.findIdx?_append
def lI:=@List.replicate_zero
def lO:=@List.set_cons_zero
def lR:=@Nat.sub_self
def lZ:=@Nat.gcd_zero_left
def mE:=@Int.le_of_not_gt
def mH:=@List.mem_flatMap
def mR:=@Option.map_none
set_option linter.unusedSimpArgs false
set_option linter.unusedVariables false
theorem Lp.iter{σ:Type}{body:σ→(σ→Prop)→Prop}(n:Nat)(I:Nat→σ→Prop){x:σ}(hx:I 0 x)(h:∀i y,i≤n→I i y→∀R:σ→Prop,(i<n→∀y',I (i+1) y'→R y')→body y R):Lp body x:=by
 intro R hR;have key:∀k i y,i+k=n→I i y→R y:=by intro k;induction k with|zero=>exact λi y e hi=>hR _ (h i y (by omega) hi R λAM=>by omega)|succ k ih=>exact λi y e hi=>hR _ (h i y (by omega) hi R λ_ y' hy'=>ih (i+1) y' (by omega) hy')
 exact key n 0 x (by omega) hx
theorem B2{α:Type}{l:List α}{d:α}{i:Nat}(h:i<l.length):l.getD i d=l[i]:=by rw[dM,dY h];rfl
theorem Vn{α:Type}{l:List α}{d:α}{p:α→Bool}{i:Nat}(hi:i<l.length)(h:p (l.getD i d)=false):l.all p=false:=by rw[dM,dY hi]at h;rw[List.all_eq_false];exact⟨l[i],kG hi,by simpa using h⟩
theorem Vo{α:Type}{l:List α}{d:α}{p:α→Bool}(h:∀j,j<l.length→p (l.getD j d)=true):l.all p=true:=by rw[gT];intro x hx;obtain⟨i,hi,rfl⟩:=List.mem_iff_getElem.1 hx;have :=h i hi;rwa[dM,dY hi]at this
theorem Lp.all{α:Type}{body:Int→(Int→Prop)→Prop}(l:List α)(d:α)(p:α→Bool)(hl:l.length≤9223372036854775807)(h:∀(i:Nat)(R:Int→Prop),i<l.length→(i:Int)<(l.length:Int)→AD .i64 ((i:Int)+1)→(p (l.getD i d)=true→R ((i:Int)+1))→(p (l.getD i d)=false→l.all p=false)→body (i:Int) R)(h2:∀R:Int→Prop,l.all p=true→body (l.length:Int) R):Lp body 0:=by
 refine Lp.iter l.length (λi y=>y=(i:Int)∧∀j,j<i→p (l.getD j d)=true) ⟨rfl,λj hj=>absurd hj (by omega)⟩ ?_;rintro i y hle⟨rfl,hi⟩R hR;by_cases e:i<l.length
 ·refine h i R e (by omega) ⟨by omega,by omega⟩ (λhp=>hR e _ ⟨by omega,λj hj=>?_⟩) λhp=>Vn e hp;by_cases ej:j=i;·subst ej;exact hp
  ·exact hi j (by omega)
 ·have :i=l.length:=by omega
  subst this;exact h2 R (Vo hi)
theorem Lp.foldl{α τ:Type}{body:Int×τ→(Int×τ→Prop)→Prop}(l:List α)(d:α)(f:τ→α→τ)(a:τ)(hl:l.length≤9223372036854775807)(h:∀(i:Nat)(t:τ)(R:Int×τ→Prop),i<l.length→(i:Int)<(l.length:Int)→AD .i64 ((i:Int)+1)→t=(l.take i).foldl f a→R ((i:Int)+1,f t (l.getD i d))→body ((i:Int),t) R)(h2:∀R:Int×τ→Prop,body ((l.length:Int),l.foldl f a) R):Lp body (0,a):=by
 refine Lp.iter l.length (λi y=>y=((i:Int),(l.take i).foldl f a)) rfl ?_;rintro i y hle rfl R hR;by_cases e:i<l.length
 ·refine h i _ R e (by omega) ⟨by omega,by omega⟩ rfl ?_;refine hR e _ ?_;have :l.take (i+1)=l.take i++[l.getD i d]:=by rw[dM,dY e];simp
  rw[this,iF];rfl
 ·have :i=l.length:=by omega
  subst this;rw[eD];exact h2 R
theorem BQ{α:Type}{l:List α}{d:α}{i:Nat}(h:i<l.length):l.getD i d∈l:=by rw[B2 h];exact kG h
theorem Lp.foldO{α τ:Type}{body:Int×τ→(Int×τ→Prop)→Prop}(l:List α)(d:α)(f:τ→α→Option τ)(a:τ)(hl:l.length≤9223372036854775807)(h:∀(i:Nat)(t:τ)(R:Int×τ→Prop),i<l.length→(i:Int)<(l.length:Int)→AD .i64 ((i:Int)+1)→(l.take i).foldlM f a=some t→(∀t',f t (l.getD i d)=some t'→R ((i:Int)+1,t'))→(f t (l.getD i d)=none→l.foldlM f a=none)→body ((i:Int),t) R)(h2:∀(t:τ)(R:Int×τ→Prop),l.foldlM f a=some t→body ((l.length:Int),t) R):Lp body (0,a):=by
 refine Lp.iter l.length (λi y=>∃t,y=((i:Int),t)∧(l.take i).foldlM f a=some t) ⟨a,rfl,rfl⟩ ?_;rintro i y hle⟨t,rfl,ht⟩R hR;by_cases e:i<l.length
 ·have hs:l.take (i+1)=l.take i++[l.getD i d]:=by rw[dM,dY e];simp
  refine h i t R e (by omega) ⟨by omega,by omega⟩ ht (λt' ht'=>hR e _ ⟨t',rfl,?_⟩) λhn=>?_;·rw[hs,gX,ht];show(f t (l.getD i d)).bind _=_;rw[ht'];rfl
  ·have h3:l=l.take i++l.getD i d::l.drop (i+1):=by rw[dM,dY e];simp
   rw[h3,gX,ht];simp only[fA,hU,fF];have e4:(l.take i++l.getD i d::l.drop (i+1)).getD i d=l.getD i d:=by rw[←h3]
   rw[hn];rfl
 ·have :i=l.length:=by omega
  subst this;rw[eD]at ht;exact h2 t R ht
theorem Lp.fill{α β:Type}{body:Int×List β→(Int×List β→Prop)→Prop}(l:List α)(d:α)(z:β)(f:α→β)(hl:l.length≤9223372036854775807)(h:∀(i:Nat)(out:List β)(R:Int×List β→Prop),i<l.length→(i:Int)<(l.length:Int)→AD .i64 ((i:Int)+1)→out.length=l.length→R ((i:Int)+1,out.set i (f (l.getD i d)))→body ((i:Int),out) R)(h2:∀R:Int×List β→Prop,body ((l.length:Int),l.map f) R):Lp body (0,List.replicate l.length z):=by
 refine Lp.iter l.length (λi y=>y=((i:Int),(l.take i).map f++List.replicate (l.length-i) z)) (by simp) ?_;rintro i y hle rfl R hR;by_cases e:i<l.length
 ·refine h i _ R e (by omega) ⟨by omega,by omega⟩ (by simp;omega) (hR e _ ?_);congr 1;have h1:l.length-i=l.length-(i+1)+1:=by omega
  rw[h1,iB,jE _ _ (by simp;omega)];have h3:i-((l.take i).map f).length=0:=by simp;omega
  rw[h3,lO,B2 e];have h4:l.take (i+1)=l.take i++[l[i]]:=by simp
  rw[h4,iU,gA];rfl
 ·have :i=l.length:=by omega
  subst this;simp only[eD,lR,lI,gZ];exact h2 R
abbrev BH:=List Int×Int
abbrev G:=Int×Int×List Int×Int
abbrev Ag:=Int×List (List G)
abbrev Z:G:=(0,0,[],0)
def BF(n:Int):Bool:=decide (-1048576≤n)&&decide (n≤1048576)
def Az(l:BH):Bool:=l.1.all BF&&(decide ((l.1.length:Int)≤12)&&BF l.2)
def AG(c:G):Bool:=if c.1=0∨c.1=1 then c.2.1==0&&Az c.2.2 else if c.1=2 then decide (1≤c.2.1)&&decide (c.2.1≤512)&&Az c.2.2 else false
def F4(p:List G)(n:Int):Bool:=p.all λc=>AG c&&(c.2.2.1.length:Int)==n
def Ar(s:Ag):Bool:=decide (0≤s.1)&&decide (s.1≤12)&&decide ((s.2.length:Int)≤400)&&s.2.all λp=>decide ((p.length:Int)≤96)&&F4 p s.1
abbrev A5.fn(x:Int×Unit):Bool:=BF x.1
abbrev CI.fn(x:BH×Unit):Bool:=Az x.1
abbrev Ay.fn(x:G×Unit):Bool:=AG x.1
abbrev Db.fn(x:List G×Int×Unit):Bool:=F4 x.1 x.2.1
abbrev Ap.fn(x:Ag×Unit):Bool:=Ar x.1
abbrev DC.fn(x:Int×Unit):Bool:=BF x.1
abbrev DU.fn(x:BH×Unit):Bool:=Az x.1
abbrev DW.fn(x:G×Unit):Bool:=AG x.1
abbrev BL.fn(x:Ag×Unit):Bool:=Ar x.1
def I9(a b:Ag):Int:=if Ar a&&Ar b then if a.1=b.1 then 0 else 2 else 1
abbrev Dc.fn(x:Ag×Ag×Unit):Int:=I9 x.1 x.2.1
abbrev DS.fn(x:BH×BH×Unit):Bool:=decide (x.1=x.2.1)
abbrev DV.fn(x:G×G×Unit):Bool:=decide (x.1=x.2.1)
abbrev DX.fn(x:List G×List G×Unit):Bool:=decide (x.1=x.2.1)
abbrev Cf.fn(x:Ag×Ag×Unit):Bool:=decide (x.1=x.2.1)
abbrev CL.fn(x:Int×Unit):Ag×Int:=if x.1<0∨12<x.1 then((0,[]),6)else((x.1,[[]]),0)
abbrev CK.fn(x:Int×Unit):Ag×Int:=if x.1<0∨12<x.1 then((0,[]),6)else((x.1,[]),0)
abbrev Cz.fn(x:Int×Unit):Ag×Int:=CL.fn x
abbrev Cy.fn(x:Int×Unit):Ag×Int:=CK.fn x
abbrev CZ.fn(x:Int×Int×Unit):G:=(0,0,[x.1],x.2.1)
abbrev Ca.fn(x:Ag×Int×Ag×Int×Unit):Bool:=decide (x.2.1=x.2.2.2.1)&&decide (x.1=x.2.2.1)
def Av(l:List Int):Nat:=l.foldl (λg n=>Nat.gcd g n.natAbs) 0
abbrev Ct.fn(x:Int×Unit):Int:=if x.1<0 then IntKind.wrap .u64 (-IntKind.wrap .u64 x.1)else IntKind.wrap .u64 x.1
abbrev Cc.fn(x:Int×Int×Unit):Int:=if x.2.1≤0 then x.1 else if x.1<0 then x.2.1 else(Nat.gcd x.1.toNat x.2.1.toNat:Nat)
abbrev Cb.fn(x:Int×Int×Unit):Int:=Cc.fn (x.1,Ct.fn (x.2.1,()),())
abbrev Cs.fn(x:List Int×Int×((Int×Int→Prop)×(Int×Int→Int))×Unit):Int:=x.1.foldl (λg n=>x.2.2.1.2 (g,n)) x.2.1
abbrev Cs.pre(x:List Int×Int×((Int×Int→Prop)×(Int×Int→Int))×Unit):Prop:=∀g,∀n∈x.1,x.2.2.1.1 (g,n)
def DO(l:List Int):Prop:=∀n∈l,-9223372036854775807≤n∧n≤9223372036854775807
abbrev Bo.fn(x:List Int×Unit):Int×Int:=((Av x.1:Nat),0)
abbrev Bo.pre(x:List Int×Unit):Prop:=DO x.1
abbrev B7.fn(x:Int×Int×Unit):Int×Int:=if x.2.1<1 then(0,1)else(x.1/x.2.1,0)
abbrev B7.pre(x:Int×Int×Unit):Prop:=-9223372036854775807≤x.1∧x.1≤9223372036854775807
abbrev Bp.fn(x:Int×Int×Unit):Int×Int:=if x.2.1<1 then(0,1)else(x.1%x.2.1,0)
abbrev Bp.pre(x:Int×Int×Unit):Prop:=x.2.1≤9223372036854775807
set_option maxRecDepth 4000
def A5.wp(x0:Int)(Q:Bool→Prop):Prop:=(decide (-1048576≤x0)=true→decide (-1048576≤x0)=true∧True)∧(decide (-1048576≤x0)=true→decide (-1048576≤x0)=true)∧Q (decide (-1048576≤x0)&&decide (x0≤1048576))
def CI.wp(x0:BH)(Q:Bool→Prop):Prop:=Lp (σ:=Int) (λy2 R2=>cond (decide (y2<x0.1.length)) ((0≤y2∧y2<x0.1.length)∧cond (! A5.fn ( x0.1.getD y2.toNat 0,())) (Q false) (AD .i64 (y2+1)∧R2 (y2+1))) ((decide ((x0.1.length:Int)≤12)=true→decide ((x0.1.length:Int)≤12)=true∧True)∧(decide ((x0.1.length:Int)≤12)=true→decide ((x0.1.length:Int)≤12)=true∧True)∧(decide ((x0.1.length:Int)≤12)=true→decide ((x0.1.length:Int)≤12)=true)∧Q (decide ((x0.1.length:Int)≤12)&&A5.fn (x0.2,())))) 0
def Ay.wp(x0:G)(Q:Bool→Prop):Prop:=let v0:=CI.fn (x0.2.2,());cond (x0.1==0) (cond (x0.1==0) (((x0.2.1==0)=true→(x0.2.1==0)=true∧True)∧((x0.2.1==0)=true→(x0.2.1==0)=true∧True)∧((x0.2.1==0)=true→(x0.2.1==0)=true)∧Q ( x0.2.1==0&&v0)) (cond (x0.1==2) ((decide (1≤x0.2.1)=true→decide (1≤x0.2.1)=true∧True)∧(decide (1≤x0.2.1)=true→decide (1≤x0.2.1)=true∧True)∧(decide (1≤x0.2.1)=true→decide (1≤x0.2.1)=true)∧((decide (1≤x0.2.1)&&decide (x0.2.1≤512))=true→(decide (1≤x0.2.1)&&decide (x0.2.1≤512))=true∧True)∧((decide (1≤x0.2.1)&&decide (x0.2.1≤512))=true→(decide (1≤x0.2.1)&&decide (x0.2.1≤512))=true∧True)∧((decide (1≤x0.2.1)&&decide (x0.2.1≤512))=true→(decide (1≤x0.2.1)&&decide (x0.2.1≤512))=true)∧Q ( decide (1≤x0.2.1)&&decide (x0.2.1≤512)&&v0)) (Q false))) (cond (x0.1==1) (((x0.2.1==0)=true→(x0.2.1==0)=true∧True)∧((x0.2.1==0)=true→(x0.2.1==0)=true∧True)∧((x0.2.1==0)=true→(x0.2.1==0)=true)∧Q ( x0.2.1==0&&v0)) (cond (x0.1==2) ((decide (1≤x0.2.1)=true→decide (1≤x0.2.1)=true∧True)∧(decide (1≤x0.2.1)=true→decide (1≤x0.2.1)=true∧True)∧(decide (1≤x0.2.1)=true→decide (1≤x0.2.1)=true)∧((decide (1≤x0.2.1)&&decide (x0.2.1≤512))=true→(decide (1≤x0.2.1)&&decide (x0.2.1≤512))=true∧True)∧((decide (1≤x0.2.1)&&decide (x0.2.1≤512))=true→(decide (1≤x0.2.1)&&decide (x0.2.1≤512))=true∧True)∧((decide (1≤x0.2.1)&&decide (x0.2.1≤512))=true→(decide (1≤x0.2.1)&&decide (x0.2.1≤512))=true)∧Q ( decide (1≤x0.2.1)&&decide (x0.2.1≤512)&&v0)) (Q false)))
def Db.wp(x0:List G)(x1:Int)(Q:Bool→Prop):Prop:=Lp (σ:=Int) (λy3 R3=>let v0:=x0.getD y3.toNat Z;cond (decide (y3<x0.length)) ((0≤y3∧y3<x0.length)∧((! ! Ay.fn (v0,()))=true→(! ! Ay.fn (v0,()))=true∧True)∧((! ! Ay.fn (v0,()))=true→(! ! Ay.fn (v0,()))=true∧True)∧((! ! Ay.fn (v0,()))=true→(! ! Ay.fn (v0,()))=true∧True)∧((! ! Ay.fn (v0,()))=true→(! ! Ay.fn (v0,()))=true∧(! ! Ay.fn (v0,()))=true∧True)∧((! Ay.fn (v0,()))=false→(! ! Ay.fn (v0,()))=true)∧cond ( ! Ay.fn (v0,())||v0.2.2.1.length !=x1) (Q false) (AD .i64 (y3+1)∧R3 (y3+1))) (Q true)) 0
def Ap.wp(x0:Int×List (List G))(Q:Bool→Prop):Prop:=((! decide (x0.1<0))=true→(! decide (x0.1<0))=true∧True)∧((! decide (x0.1<0))=true→(! decide (x0.1<0))=true∧True)∧(decide (x0.1<0)=false→(! decide (x0.1<0))=true)∧((!(decide (x0.1<0)||decide (12<x0.1)))=true→(!(decide (x0.1<0)||decide (12<x0.1)))=true∧True)∧((!(decide (x0.1<0)||decide (12<x0.1)))=true→(!(decide (x0.1<0)||decide (12<x0.1)))=true∧True)∧((!(decide (x0.1<0)||decide (12<x0.1)))=true→(!(decide (x0.1<0)||decide (12<x0.1)))=true∧True)∧((decide (x0.1<0)||decide (12<x0.1))=false→(!(decide (x0.1<0)||decide (12<x0.1)))=true)∧cond ( decide (x0.1<0)||decide (12<x0.1)||decide (400<(x0.2.length:Int))) (Q false) (Lp (σ:=Int) (λy2 R2=>let v0:=x0.2.getD y2.toNat ([]:List G);cond (decide (y2<x0.2.length)) ((0≤y2∧y2<x0.2.length)∧((! decide (96<(v0.length:Int)))=true→(! decide (96<(v0.length:Int)))=true∧True)∧((! decide (96<(v0.length:Int)))=true→(! decide (96<(v0.length:Int)))=true∧(! decide (96<(v0.length:Int)))=true∧True)∧((! decide (96<(v0.length:Int)))=true→(! decide (96<(v0.length:Int)))=true∧True)∧(decide (96<(v0.length:Int))=false→(! decide (96<(v0.length:Int)))=true)∧cond (decide (96<(v0.length:Int))||! Db.fn (v0,(x0.1,()))) (Q false) (AD .i64 (y2+1)∧R2 (y2+1))) (Q true)) 0)
def Dc.wp(x0:Int×List (List G))(x1:Int×List (List G))(Q:Int→Prop):Prop:=((! ! Ap.fn (x0,()))=true→(! ! Ap.fn (x0,()))=true∧True)∧((! ! Ap.fn (x0,()))=true→(! ! Ap.fn (x0,()))=true∧True)∧((! Ap.fn (x0,()))=false→(! ! Ap.fn (x0,()))=true)∧cond ( ! Ap.fn (x0,())||! Ap.fn (x1,())) (Q 1) (cond (x0.1 !=x1.1) (Q 2) (Q 0))
def CL.wp(x0:Int)(Q:(Int×List (List G))×Int→Prop):Prop:=((! decide (x0<0))=true→(! decide (x0<0))=true∧True)∧(decide (x0<0)=false→(! decide (x0<0))=true)∧cond (decide (x0<0)||decide (12<x0)) (Q ((0,([]:List (List G))),6)) (Q ((x0,[([]:List G)]),0))
def DC.wp(x0:Int)(Q:Bool→Prop):Prop:=(decide (-1048576≤x0)=true→decide (-1048576≤x0)=true∧True)∧(decide (-1048576≤x0)=true→decide (-1048576≤x0)=true)∧Q (decide (-1048576≤x0)&&decide (x0≤1048576))
def DU.wp(x0:BH)(Q:Bool→Prop):Prop:=Lp (σ:=Int) (λy2 R2=>cond (decide (y2<x0.1.length)) ((0≤y2∧y2<x0.1.length)∧cond (! DC.fn ( x0.1.getD y2.toNat 0,())) (Q false) (AD .i64 (y2+1)∧R2 (y2+1))) ((decide ((x0.1.length:Int)≤12)=true→decide ((x0.1.length:Int)≤12)=true∧True)∧(decide ((x0.1.length:Int)≤12)=true→decide ((x0.1.length:Int)≤12)=true∧True)∧(decide ((x0.1.length:Int)≤12)=true→decide ((x0.1.length:Int)≤12)=true)∧Q (decide ((x0.1.length:Int)≤12)&&DC.fn (x0.2,())))) 0
def DW.wp(x0:G)(Q:Bool→Prop):Prop:=cond (! DU.fn (x0.2.2,())) (Q false) (cond (x0.1==2) ((decide (1≤x0.2.1)=true→decide (1≤x0.2.1)=true∧True)∧(decide (1≤x0.2.1)=true→decide (1≤x0.2.1)=true∧True)∧(decide (1≤x0.2.1)=true→decide (1≤x0.2.1)=true)∧Q (decide (1≤x0.2.1)&&decide (x0.2.1≤512))) (( ! x0.1==0=true→! x0.1==0=true∧True)∧( ! x0.1==0=true→! x0.1==0=true∧True)∧((x0.1==0)=false→(! x0.1==0)=true)∧(( x0.1==0||x0.1==1)=true→( x0.1==0||x0.1==1)=true∧True)∧(( x0.1==0||x0.1==1)=true→( x0.1==0||x0.1==1)=true∧True)∧(( x0.1==0||x0.1==1)=true→( x0.1==0||x0.1==1)=true)∧Q (( x0.1==0||x0.1==1)&&x0.2.1==0)))
def BL.wp(x0:Int×List (List G))(Q:Bool→Prop):Prop:=((! decide (x0.1<0))=true→(! decide (x0.1<0))=true∧True)∧((! decide (x0.1<0))=true→(! decide (x0.1<0))=true∧True)∧(decide (x0.1<0)=false→(! decide (x0.1<0))=true)∧((!(decide (x0.1<0)||decide (12<x0.1)))=true→(!(decide (x0.1<0)||decide (12<x0.1)))=true∧True)∧((!(decide (x0.1<0)||decide (12<x0.1)))=true→(!(decide (x0.1<0)||decide (12<x0.1)))=true∧True)∧((!(decide (x0.1<0)||decide (12<x0.1)))=true→(!(decide (x0.1<0)||decide (12<x0.1)))=true∧True)∧((decide (x0.1<0)||decide (12<x0.1))=false→(!(decide (x0.1<0)||decide (12<x0.1)))=true)∧cond ( decide (x0.1<0)||decide (12<x0.1)||decide (400<(x0.2.length:Int))) (Q false) (Lp (σ:=Int) (λy2 R2=>let v0:=x0.2.getD y2.toNat ([]:List G);cond (decide (y2<x0.2.length)) ((0≤y2∧y2<x0.2.length)∧cond (decide (96<(v0.length:Int))) (Q false) (Lp (σ:=Int) (λy4 R4=>let v1:=v0.getD y4.toNat Z;let v2:=DW.fn (v1,());cond (decide (y4<v0.length)) ((0≤y4∧y4<v0.length)∧((! !v2)=true→(! !v2)=true∧True)∧((! !v2)=true→(! !v2)=true∧True)∧((! !v2)=true→(! !v2)=true∧True)∧((! !v2)=true→(! !v2)=true∧True)∧((! !v2)=true→(! !v2)=true∧(! !v2)=true∧True)∧((!v2)=false→(! !v2)=true)∧cond ( !v2||v1.2.2.1.length !=x0.1) (Q false) (AD .i64 (y4+1)∧R4 (y4+1))) (AD .i64 (y2+1)∧R2 (y2+1))) 0)) (Q true)) 0)
def DS.wp(x0:BH)(x1:BH)(Q:Bool→Prop):Prop:=((! x0.1.length !=(x1.1.length:Int))=true→(! x0.1.length !=(x1.1.length:Int))=true∧True)∧( ! x0.1.length !=(x1.1.length:Int)=true→! x0.1.length !=(x1.1.length:Int)=true∧True)∧( ! x0.1.length !=(x1.1.length:Int)=true→! x0.1.length !=(x1.1.length:Int)=true∧! x0.1.length !=(x1.1.length:Int)=true∧True)∧((x0.1.length !=(x1.1.length:Int))=false→(! x0.1.length !=(x1.1.length:Int))=true)∧cond ( x0.1.length !=(x1.1.length:Int)||x0.2 !=x1.2) (Q false) (Lp (σ:=Int) (λy3 R3=>cond (decide (y3<x0.1.length)) ((0≤y3∧y3<x0.1.length)∧(0≤y3∧y3<x1.1.length)∧cond ( x0.1.getD y3.toNat 0 !=x1.1.getD y3.toNat 0) (Q false) (AD .i64 (y3+1)∧R3 (y3+1))) (Q true)) 0)
def DV.wp(x0:G)(x1:G)(Q:Bool→Prop):Prop:=((x0.1==x1.1)=true→(x0.1==x1.1)=true∧True)∧((x0.1==x1.1)=true→(x0.1==x1.1)=true∧True)∧((x0.1==x1.1)=true→(x0.1==x1.1)=true∧(x0.1==x1.1)=true∧True)∧((x0.1==x1.1)=true→(x0.1==x1.1)=true)∧(( x0.1==x1.1&&x0.2.1==x1.2.1)=true→( x0.1==x1.1&&x0.2.1==x1.2.1)=true∧True)∧(( x0.1==x1.1&&x0.2.1==x1.2.1)=true→( x0.1==x1.1&&x0.2.1==x1.2.1)=true∧True)∧(( x0.1==x1.1&&x0.2.1==x1.2.1)=true→( x0.1==x1.1&&x0.2.1==x1.2.1)=true∧( x0.1==x1.1&&x0.2.1==x1.2.1)=true∧True)∧(( x0.1==x1.1&&x0.2.1==x1.2.1)=true→( x0.1==x1.1&&x0.2.1==x1.2.1)=true)∧Q ( x0.1==x1.1&&x0.2.1==x1.2.1&&DS.fn (x0.2.2,(x1.2.2,())))
def DX.wp(x0:List G)(x1:List G)(Q:Bool→Prop):Prop:=cond (x0.length !=(x1.length:Int)) (Q false) (Lp (σ:=Int) (λy3 R3=>cond (decide (y3<x0.length)) ((0≤y3∧y3<x0.length)∧(0≤y3∧y3<x1.length)∧cond (! DV.fn ( x0.getD y3.toNat Z,( x1.getD y3.toNat Z,()))) (Q false) (AD .i64 (y3+1)∧R3 (y3+1))) (Q true)) 0)
def Cf.wp(x0:Int×List (List G))(x1:Int×List (List G))(Q:Bool→Prop):Prop:=( ! x0.1 !=x1.1=true→! x0.1 !=x1.1=true∧True)∧((! x0.1 !=x1.1)=true→(! x0.1 !=x1.1)=true∧True)∧((! x0.1 !=x1.1)=true→! x0.1 !=x1.1=true∧True)∧((! x0.1 !=x1.1)=true→! x0.1 !=x1.1=true∧True)∧((! x0.1 !=x1.1)=true→! x0.1 !=x1.1=true∧! x0.1 !=x1.1=true∧True)∧((x0.1 !=x1.1)=false→! x0.1 !=x1.1=true)∧cond ( x0.1 !=x1.1||x0.2.length !=(x1.2.length:Int)) (Q false) (Lp (σ:=Int) (λy3 R3=>cond (decide (y3<x0.2.length)) ((0≤y3∧y3<x0.2.length)∧(0≤y3∧y3<x1.2.length)∧cond (! DX.fn ( x0.2.getD y3.toNat ([]:List G),( x1.2.getD y3.toNat ([]:List G),()))) (Q false) (AD .i64 (y3+1)∧R3 (y3+1))) (Q true)) 0)
def CZ.wp(x0:Int)(x1:Int)(Q:G→Prop):Prop:=Q (0,(0,([x0],x1)))
def Ca.wp(x0:Int×List (List G))(x1:Int)(x2:Int×List (List G))(x3:Int)(Q:Bool→Prop):Prop:=((x1==x3)=true→(x1==x3)=true∧(x1==x3)=true∧True)∧((x1==x3)=true→(x1==x3)=true)∧Q ( x1==x3&&Cf.fn (x0,(x2,())))
def Ct.wp(x0:Int)(Q:Int→Prop):Prop:=let v0:=IntKind.wrap .u64 x0;cond (decide (x0<0)) (Q (IntKind.wrap .u64 (-v0))) (Q v0)
def Cc.wp(x0:Int)(x1:Int)(Q:Int→Prop):Prop:=Lp (σ:=Int×Int) (λy3 R3=>cond (decide (0<y3.1)) (y3.1≠0∧R3 (Int.tmod y3.2 y3.1,y3.1)) (Q y3.2)) (x1,x0)
def Cb.wp(x0:Int)(x1:Int)(Q:Int→Prop):Prop:=Q (Cc.fn (x0,(Ct.fn (x1,()),())))
def Cs.wp(x0:List Int)(x1:Int)(x2:(Int×Int→Prop)×(Int×Int→Int))(Q:Int→Prop):Prop:=Lp (σ:=Int×Int) (λy4 R4=>let v0:=x0.getD y4.1.toNat 0;cond (decide (y4.1<x0.length)) ((0≤y4.1∧y4.1<x0.length)∧x2.1 (y4.2,v0)∧AD .i64 (y4.1+1)∧R4 ( y4.1+1,x2.2 (y4.2,v0))) (Q y4.2)) (0,x1)
def Bo.wp(x0:List Int)(Q:Int×Int→Prop):Prop:=let v0:=Cs.fn (x0,(0,((λ(a2:Int×Int)=>True,λ(a2:Int×Int)=>Cb.fn (a2.1,(a2.2,()))),())));Cs.pre (x0,(0,((λ(a2:Int×Int)=>True,λ(a2:Int×Int)=>Cb.fn (a2.1,(a2.2,()))),())))∧cond (decide (9223372036854775807<v0)) (Q (0,3)) (AD .i64 v0∧Q (v0,0))
def B7.wp(x0:Int)(x1:Int)(Q:Int×Int→Prop):Prop:=cond (decide (x1<1)) (Q (0,1)) ((x1≠0∧AD .i64 (Int.tdiv x0 x1))∧x1≠0∧cond (decide (Int.tmod x0 x1<0)) (AD .i64 (Int.tdiv x0 x1-1)∧Q ( Int.tdiv x0 x1-1,0)) (Q (Int.tdiv x0 x1,0)))
def Bp.wp(x0:Int)(x1:Int)(Q:Int×Int→Prop):Prop:=cond (decide (x1<1)) (Q (0,1)) (x1≠0∧cond (decide (Int.tmod x0 x1<0)) (AD .i64 (Int.tmod x0 x1+x1)∧Q ( Int.tmod x0 x1+x1,0)) (Q (Int.tmod x0 x1,0)))
theorem A5.spec(x:Int):A5.wp x λr=>r=A5.fn (x,()):=by simp[A5.wp,A5.fn,BF]
theorem DC.spec(x:Int):DC.wp x λr=>r=DC.fn (x,()):=by simp[DC.wp,DC.fn,BF]
theorem CI.spec(x:BH)(hl:x.1.length≤9223372036854775807):CI.wp x λr=>r=CI.fn (x,()):=by
 refine Lp.all x.1 0 BF hl (λi R hi hi' hf ht DK=>?_) λR h=>?_;·rw[dL hi'];refine⟨⟨by omega,hi'⟩,?_⟩;rw[dP];show cond (!BF (x.1.getD i 0)) _ _;cases h:BF (x.1.getD i 0)with|true=>exact⟨hf,ht h⟩|false=>simp[CI.fn,Az,DK h]
 ·simp[CI.fn,A5.fn,Az,h]
theorem DU.spec(x:BH)(hl:x.1.length≤9223372036854775807):DU.wp x λr=>r=DU.fn (x,()):=by
 refine Lp.all x.1 0 BF hl (λi R hi hi' hf ht DK=>?_) λR h=>?_;·rw[dL hi'];refine⟨⟨by omega,hi'⟩,?_⟩;rw[dP];show cond (!BF (x.1.getD i 0)) _ _;cases h:BF (x.1.getD i 0)with|true=>exact⟨hf,ht h⟩|false=>simp[DU.fn,Az,DK h]
 ·simp[DU.fn,DC.fn,Az,h]
theorem Ay.spec(x:G):Ay.wp x λr=>r=Ay.fn (x,()):=by
 obtain⟨k,m,l⟩:=x;by_cases h0:k=0;·subst h0;simp[Ay.wp,Ay.fn,AG,CI.fn]
 by_cases h1:k=1;·subst h1;simp[Ay.wp,Ay.fn,AG,CI.fn]
 by_cases h2:k=2;·subst h2;simp[Ay.wp,Ay.fn,AG,CI.fn]
 simp[Ay.wp,Ay.fn,AG,CI.fn,h0,h1,h2]
theorem DW.spec(x:G):DW.wp x λr=>r=DW.fn (x,()):=by
 obtain⟨k,m,l⟩:=x;simp only[DW.wp,DW.fn,AG,DU.fn];cases hl:Az l<;>by_cases h0:k=0;all_goals first|(subst h0;simp;done)|skip
 all_goals by_cases h1:k=1
 all_goals first|(subst h1;simp;done)|skip
 all_goals by_cases h2:k=2
 all_goals first|(subst h2;simp;done)|skip
 all_goals simp[h0,h1,h2]
theorem Db.spec(x:List G)(n:Int)(hl:x.length≤9223372036854775807):Db.wp x n λr=>r=Db.fn (x,n,()):=by
 refine Lp.all x Z (λc=>AG c&&(c.2.2.1.length:Int)==n) hl (λi R hi hi' hf ht DK=>?_) λR h=>?_;·simp only[dL hi',dP,Ay.fn];refine⟨⟨by omega,hi'⟩,?_⟩;have ht':AG (x.getD i Z)=true→(((x.getD i Z).2.2.1.length:Int)==n)=true→R ((i:Int)+1):=λh1 h2=>ht (by rw[h1,h2];rfl);have IS:(AG (x.getD i Z)&&((x.getD i Z).2.2.1.length:Int)==n)=false→Db.fn (x,n,())=false:=λh=>DK h;revert ht' IS;generalize x.getD i Z=c;intro ht' IS;cases h1:AG c with|false=>simp[IS (by rw[h1];rfl)]|true=>cases h2:(c.2.2.1.length:Int)==n with|true=>simp[bne,h2,hf,ht' h1 h2]|false=>simp[bne,h2,IS (by rw[h1,h2];rfl)]
 ·simp[Db.fn,F4,h]
theorem Ap.spec(x:Ag)(hl:x.2.length≤9223372036854775807):Ap.wp x λr=>r=Ap.fn (x,()):=by
 obtain⟨n,ps⟩:=x;simp only[Ap.wp,Ap.fn];have hg:∀b:Bool,b=true→b=true∧True:=λb h=>⟨h,trivial⟩;have hn:∀b:Bool,b=false→(!b)=true:=λb h=>by rw[h];rfl
 refine⟨hg _,hg _,hn _,hg _,hg _,hg _,hn _,?_⟩;by_cases h1:n<0;·simp[h1,Ar,show¬0≤n by omega]
 by_cases h2:12<n;·simp[h1,h2,Ar,show¬n≤12 by omega]
 by_cases h3:(400:Int)<(ps.length:Int);·simp only[dL h3,iH,dV];simp[Ar,show¬(ps.length:Int)≤400 by omega]
 rw[dR h1,dR h2,dR h3];have hv:∀b,ps.all (λp=>decide ((p.length:Int)≤96)&&F4 p n)=b→Ar (n,ps)=b:=λb h=>by simp only[Ar,h];rw[dL (show(0:Int)≤n by omega),dL (show n≤12 by omega),dL (show(ps.length:Int)≤400 by omega)];rfl
 refine Lp.all ps [] (λp=>decide ((p.length:Int)≤96)&&F4 p n) hl (λi R hi hi' hf ht DK=>?_) λR h=>?_
 ·simp only[dL hi',dP,Db.fn];refine⟨⟨by omega,hi'⟩,?_⟩;by_cases h4:(96:Int)<((ps.getD i []).length:Int);·simp only[dL h4];have :=hv false (DK (by rw[dR (show¬((ps.getD i []).length:Int)≤96 by omega)];rfl));simp[this]
  ·simp only[dR h4];cases h5:F4 (ps.getD i []) n with|true=>have :=ht (by rw[h5,dL (show((ps.getD i []).length:Int)≤96 by omega)];rfl);simp[hf,this]|false=>have :=hv false (DK (by rw[h5,Bool.and_false]));simp[this]
 ·simp[hv true h]
theorem Dc.spec(x y:Ag):Dc.wp x y λr=>r=Dc.fn (x,y,()):=by simp only[Dc.wp,Ap.fn,Dc.fn,I9];by_cases h:x.1=y.1<;>cases Ar x<;>cases Ar y<;>simp[h]
theorem Rs{α:Type}{a b:List α}{d:α}(hl:a.length=b.length)(h:∀j,j<a.length→a.getD j d=b.getD j d):a=b:=by apply List.ext_getElem hl;intro i h1 h2;have :=h i h1;rwa[B2 h1,B2 h2]at this
theorem DS.spec(x y:BH)(hl:x.1.length≤9223372036854775807):DS.wp x y λr=>r=DS.fn (x,y,()):=by
 obtain⟨c,k⟩:=x;obtain⟨d,m⟩:=y;simp only[DS.wp,DS.fn];have hg:∀b:Bool,b=true→b=true∧True:=λb h=>⟨h,trivial⟩;refine⟨hg _,hg _,λh=>⟨h,h,trivial⟩,λh=>by rw[h];rfl,?_⟩;by_cases h1:c.length=d.length
 ·by_cases h2:k=m
  ·subst h2;simp only[h1,eI,jZ,dN];rw[show((d.length:Nat):Int)=(c.length:Int)by omega];refine Lp.iter c.length (λi y=>y=(i:Int)∧∀j,j<i→c.getD j 0=d.getD j 0) ⟨rfl,λj hj=>absurd hj (by omega)⟩ ?_;rintro i y hle⟨rfl,hi⟩R hR;by_cases e:i<c.length
   ·rw[dL (show(i:Int)<(c.length:Int)by omega)];refine⟨⟨by omega,by omega⟩,⟨by omega,by omega⟩,?_⟩;rw[dP];by_cases h3:c.getD i 0=d.getD i 0
    ·rw[h3];simp only[eI,dN];have S0:c.length≤9223372036854775807:=hl;refine⟨⟨by omega,by omega⟩,hR e _ ⟨by omega,λj hj=>?_⟩⟩;by_cases ej:j=i;·subst ej;exact h3
     ·exact hi j (by omega)
    ·rw[bne_iff_ne.2 h3];refine(dR λh=>h3 ?_).symm;rw[gL]at h;rw[h.1]
   ·have :i=c.length:=by omega
    subst this;simp only[eB,eK,dN];exact(dL (by rw[Rs h1 hi])).symm
  ·simp only[bne_iff_ne.2 h2,iH,dV];exact(dR λh=>h2 (by rw[gL]at h;exact h.2)).symm
 ·simp only[bne_iff_ne.2 (show((c.length:Nat):Int)≠(d.length:Int)by omega),iV,dV];exact(dR λh=>h1 (by rw[gL]at h;rw[h.1])).symm
theorem DV.spec(x y:G):DV.wp x y λr=>r=DV.fn (x,y,()):=by obtain⟨k,m,l⟩:=x;obtain⟨k',m',l'⟩:=y;simp only[DV.wp,DV.fn,DS.fn];by_cases h1:k=k'<;>by_cases h2:m=m'<;>simp[h1,h2,Prod.ext_iff]
theorem Rp{α:Type}{d:α}[DecidableEq α]{a b:List α}{Q:Bool→Prop}{body:Int→(Int→Prop)→Prop}(hl:a.length≤9223372036854775807)(h1:a.length=b.length)(hQ:Q (decide (a=b)))(h:∀(i:Nat)(R:Int→Prop),i<a.length→i<b.length→AD .i64 ((i:Int)+1)→(a.getD i d=b.getD i d→R ((i:Int)+1))→(a.getD i d≠b.getD i d→Q false)→body (i:Int) R)(h2:∀R:Int→Prop,Q true→body (a.length:Int) R):Lp body 0:=by
 refine Lp.iter a.length (λi y=>y=(i:Int)∧∀j,j<i→a.getD j d=b.getD j d) ⟨rfl,λj hj=>absurd hj (by omega)⟩ ?_;rintro i y hle⟨rfl,hi⟩R hR;by_cases e:i<a.length
 ·refine h i R e (by omega) ⟨by omega,by omega⟩ (λhe=>hR e _ ⟨by omega,λj hj=>?_⟩) λAU=>?_
  ·by_cases ej:j=i;·subst ej;exact he
   ·exact hi j (by omega)
  ·rwa[dR λh=>AU (by rw[h])]at hQ
 ·have :i=a.length:=by omega
  subst this;refine h2 R ?_;rwa[dL (Rs h1 hi)]at hQ
theorem DX.spec(x y:List G)(hl:x.length≤9223372036854775807):DX.wp x y λr=>r=DX.fn (x,y,()):=by
 simp only[DX.wp];by_cases h1:x.length=y.length
 ·rw[h1];simp only[eI,dN];rw[←h1];refine Rp (d:=Z) hl h1 (Q:=λr=>r=DX.fn (x,y,())) rfl (λi R hi hi2 hf ht DK=>?_) λR h=>?_
  ·rw[dL (show(i:Int)<(x.length:Int)by omega)];refine⟨⟨by omega,by omega⟩,⟨by omega,by omega⟩,?_⟩;simp only[dP,DV.fn];by_cases e:x.getD i Z=y.getD i Z;·rw[dL e];exact⟨hf,ht e⟩
   ·rw[dR e];exact DK e
  ·simp only[eB,eK,dN];exact h
 ·rw[bne_iff_ne.2 (show((x.length:Nat):Int)≠(y.length:Int)by omega)];exact(dR λh=>h1 (eR List.length h)).symm
theorem Cf.spec(x y:Ag)(hl:x.2.length≤9223372036854775807):Cf.wp x y λr=>r=Cf.fn (x,y,()):=by
 obtain⟨n,a⟩:=x;obtain⟨m,b⟩:=y;simp only[Cf.wp];have hg:∀b:Bool,b=true→b=true∧True:=λb h=>⟨h,trivial⟩;refine⟨hg _,hg _,hg _,hg _,λh=>⟨h,h,trivial⟩,λh=>by rw[h];rfl,?_⟩;by_cases h0:n=m
 ·by_cases h1:a.length=b.length
  ·subst h0;simp only[h1,eI,jZ,dN];rw[←h1];refine Rp (d:=[]) (a:=a) (b:=b) hl h1 (Q:=λr=>r=Cf.fn ((n,a),(n,b),())) (by simp[Cf.fn]) (λi R hi hi2 hf ht DK=>?_) λR h=>?_
   ·rw[dL (show(i:Int)<(a.length:Int)by omega)];refine⟨⟨by omega,by omega⟩,⟨by omega,by omega⟩,?_⟩;simp only[dP,DX.fn];by_cases e:a.getD i []=b.getD i [];·rw[dL e];exact⟨hf,ht e⟩
    ·rw[dR e];exact DK e
   ·simp only[eB,eK,dN];exact h
  ·simp only[bne_iff_ne.2 (show((a.length:Nat):Int)≠(b.length:Int)by omega),iH,dV];exact(dR λh=>h1 (by rw[gL]at h;rw[h.2])).symm
 ·simp only[bne_iff_ne.2 h0,iV,dV];exact(dR λh=>h0 (by rw[gL]at h;rw[h.1])).symm
theorem CL.spec(n:Int):CL.wp n λr=>r=CL.fn (n,()):=by simp only[CL.wp,CL.fn];by_cases h1:n<0<;>by_cases h2:12<n<;>simp[h1,h2]
theorem CZ.spec(a b:Int):CZ.wp a b λr=>r=CZ.fn (a,b,()):=rfl
theorem Ca.spec(a:Ag)(e:Int)(b:Ag)(f:Int):Ca.wp a e b f λr=>r=Ca.fn (a,e,b,f,()):=by simp only[Ca.wp,Ca.fn,Cf.fn];by_cases h:e=f<;>simp[h]
theorem Ct.spec(n:Int):Ct.wp n λr=>r=Ct.fn (n,()):=by simp only[Ct.wp,Ct.fn];by_cases h:n<0<;>simp[h]
theorem bZ(n:Int):IntKind.wrap .u64 n=n%18446744073709551616:=by simp[IntKind.wrap,IntKind.bits,IntKind.signed]
theorem aJ{n:Int}(h:-9223372036854775807≤n)(h2:n≤9223372036854775807):Ct.fn (n,())=(n.natAbs:Int):=by
 simp only[Ct.fn,bZ];split
 ·have h3:n%18446744073709551616=n+18446744073709551616:=by omega
  rw[h3];omega
 ·rw[Int.emod_eq_of_lt (by omega) (by omega)];omega
theorem XV{a b:Int}(ha:0≤a)(hb:0<b):Nat.gcd b.toNat (a.tmod b).toNat=Nat.gcd a.toNat b.toNat:=by obtain⟨m,rfl⟩:∃m:Nat,a=m:=⟨a.toNat,by omega⟩;obtain⟨k,rfl⟩:∃k:Nat,b=k:=⟨b.toNat,by omega⟩;rw[Int.tmod_eq_emod_of_nonneg ha,←Int.natCast_emod,dP,dP,dP,Nat.gcd_comm m k,Nat.gcd_rec k m,Nat.gcd_comm]
theorem Cc.spec(a b:Int):Cc.wp a b λr=>r=Cc.fn (a,b,()):=by
 simp only[Cc.wp];refine Lp.wf (λy=>Cc.fn (y.2,y.1,())=Cc.fn (a,b,())) (λy=>y.1.toNat) (λy hy R hR=>?_) rfl;obtain⟨b',a'⟩:=y;simp only at hy⊢;by_cases h:0<b'
 ·rw[dL h];have AM:=Int.tmod_lt_of_pos a' h;refine⟨by omega,hR _ ?_ (by omega)⟩;rw[←hy];simp only[Cc.fn];rw[dK (show¬b'≤0 by omega)];by_cases ha:a'<0;·rw[dO ha,dO (show a'.tmod b'≤0 from by have :=kO b' (show 0≤-a' by omega);rw[Int.neg_tmod]at this;omega)]
  ·rw[dK ha];have h0:=kO b' (show 0≤a' by omega);have :=XV (show 0≤a' by omega) h;by_cases hz:a'.tmod b'≤0
   ·rw[dO hz];have e:a'.tmod b'=0:=by omega
    rw[e]at this;simp only[Int.toNat_zero,Nat.gcd_zero_right]at this;rw[←this];omega
   ·rw[dK hz,dK (show¬b'<0 by omega),this]
 ·rw[dR h];rw[←hy];simp only[Cc.fn];rw[dO (show b'≤0 by omega)];rfl
theorem Cb.fn_eq(a n:Int)(ha:0≤a)(h:-9223372036854775807≤n)(h2:n≤9223372036854775807):Cb.fn (a,n,())=(Nat.gcd a.toNat n.natAbs:Nat):=by
 simp only[Cb.fn,aJ h h2,Cc.fn];split
 ·have :n.natAbs=0:=by omega
  rw[this];simp;omega
 ·rw[dK (by omega)];simp
theorem Cb.spec(a b:Int):Cb.wp a b λr=>r=Cb.fn (a,b,()):=rfl
theorem Cs.spec(l:List Int)(a:Int)(f:(Int×Int→Prop)×(Int×Int→Int))(hl:l.length≤9223372036854775807)(hp:Cs.pre (l,a,f,())):Cs.wp l a f λr=>r=Cs.fn (l,a,f,()):=by
 refine Lp.foldl l 0 (λg n=>f.2 (g,n)) a hl (λi t R hi hi' hf ht hR=>?_) λR=>?_;·simp only[dL hi',dP];exact⟨⟨by omega,hi'⟩,hp _ _ (BQ hi),hf,hR⟩
 ·simp only[eB,eK,dN]
theorem XR{l:List Int}(h:DO l):∀g:Nat,l.foldl (λg n=>Cb.fn (g,n,())) (g:Int)=((l.foldl (λg n=>Nat.gcd g n.natAbs) g:Nat):Int):=by induction l with|nil=>exact λg=>rfl|cons n l ih=>intro g;have hn:=h n (by simp);simp only[gC];rw[Cb.fn_eq _ _ (by omega) hn.1 hn.2];exact ih (λm hm=>h m (by simp[hm])) _
theorem R8{l:List Int}:∀g:Nat,0<g→l.foldl (λg n=>Nat.gcd g n.natAbs) g≤g:=by induction l with|nil=>exact λg _=>dT _|cons n l ih=>intro g hg;simp only[gC];exact eO (ih _ (Nat.gcd_pos_of_pos_left _ hg)) (Nat.gcd_le_left _ hg)
theorem SE{l:List Int}(h:DO l):Av l≤9223372036854775807:=by
 unfold Av;have key:∀l:List Int,DO l→l.foldl (λg n=>Nat.gcd g n.natAbs) 0≤9223372036854775807:=by intro l;induction l with|nil=>exact λ_=>by simp|cons n l ih=>
  intro h;have hn:=h n (by simp);simp only[gC,lZ];by_cases e:n.natAbs=0;·rw[e];exact ih λm hm=>h m (by simp[hm])
  ·exact eO (R8 _ (by omega)) (by omega)
 exact key l h
theorem Bo.spec(l:List Int)(hp:Bo.pre (l,())):Bo.wp l λr=>r=Bo.fn (l,()):=by have hle:Av l≤9223372036854775807:=SE hp;have e:Cs.fn (l,0,(λ_=>True,λa=>Cb.fn (a.1,a.2,())),())=(Av l:Int):=XR hp 0;simp only[Bo.wp];refine⟨λ_ _ _=>trivial,?_⟩;rw[e,dR (show¬(9223372036854775807:Int)<(Av l:Int)by omega)];exact⟨⟨by omega,by omega⟩,rfl⟩
theorem Rz{a b:Int}(hb:0<b):(a.tmod b<0→a.tdiv b-1=a/b∧a.tmod b+b=a%b)∧(¬a.tmod b<0→a.tdiv b=a/b∧a.tmod b=a%b):=by
 have h1:=iT a (show b≠0 by omega);have h2:=iD a hb;rw[Int.tmod_eq_emod,Int.tdiv_eq_ediv];split;·exact⟨λh=>by omega,λ_=>⟨by omega,by omega⟩⟩
 ·rw[Int.sign_eq_one_of_pos hb];exact⟨λ_=>⟨by omega,by omega⟩,λh=>by omega⟩
theorem Wg{a b:Int}(hb:0<b)(h:-9223372036854775807≤a)(h2:a≤9223372036854775807):-9223372036854775807≤a/b∧a/b≤9223372036854775807:=by
 constructor;·rw[Int.le_ediv_iff_mul_le hb];have :=jM (show(1:Int)≤b by omega) (show(0:Int)≤9223372036854775807 by omega);rw[show(-9223372036854775807:Int)=-9223372036854775807 from rfl,Int.neg_mul];omega
 ·refine Int.le_of_lt_add_one ?_;rw[Int.ediv_lt_iff_lt_mul hb];have :=jM (show(1:Int)≤b by omega) (show(0:Int)≤9223372036854775808 by omega);omega
theorem XL{a b:Int}(hp:B7.pre (a,b,())){Q:Int×Int→Prop}(h:Q (B7.fn (a,b,()))):cond (decide (b<(1:Int))) (Q ((0:Int),(1:Int))) ((b≠(0:Int)∧AD IntKind.i64 (Int.tdiv a b))∧b≠(0:Int)∧cond (decide (Int.tmod a b<(0:Int))) (AD IntKind.i64 (Int.tdiv a b-(1:Int))∧Q ( Int.tdiv a b-(1:Int),(0:Int))) (Q (Int.tdiv a b,(0:Int)))):=by
 simp only[B7.fn]at h;by_cases h1:b<1;·rw[dL h1];rwa[dO h1]at h
 ·rw[dR h1];rw[dK h1]at h;have hb:-9223372036854775807≤a/b∧a/b≤9223372036854775807:=Wg (b:=b) (by omega) hp.1 hp.2;have hf:=Rz (a:=a) (b:=b) (by omega);have hq:AD IntKind.i64 (a.tdiv b):=by
   by_cases h2:a.tmod b<0
   ·have h5:=(hf.1 h2).1;have ha:a<0:=Int.not_le.1 λh=>by have :=kO b h;omega
    have :=Int.ediv_neg_of_neg_of_pos ha (show 0<b by omega);exact⟨by omega,by omega⟩
   ·have :=(hf.2 h2).1;exact⟨by omega,by omega⟩
  refine⟨⟨by omega,hq⟩,by omega,?_⟩;by_cases h2:a.tmod b<0;·rw[dL h2];have :=(hf.1 h2).1;rw[←this]at h;exact⟨⟨by omega,by omega⟩,h⟩
  ·rw[dR h2];rw[←(hf.2 h2).1]at h;exact h
theorem B7.spec(a b:Int)(hp:B7.pre (a,b,())):B7.wp a b λr=>r=B7.fn (a,b,()):=XL (Q:=λr=>r=B7.fn (a,b,())) hp rfl
theorem ZY{a b:Int}(hp:Bp.pre (a,b,())){Q:Int×Int→Prop}(h:Q (Bp.fn (a,b,()))):cond (decide (b<(1:Int))) (Q ((0:Int),(1:Int))) (b≠(0:Int)∧cond (decide (Int.tmod a b<(0:Int))) (AD IntKind.i64 (Int.tmod a b+b)∧Q ( Int.tmod a b+b,(0:Int))) (Q (Int.tmod a b,(0:Int)))):=by
 simp only[Bp.fn]at h;have hp:b≤9223372036854775807:=hp;by_cases h1:b<1;·rw[dL h1];rwa[dO h1]at h
 ·rw[dR h1];rw[dK h1]at h;have hf:=Rz (a:=a) (b:=b) (by omega);have h3:=iT a (show b≠0 by omega);have h4:=iD a (show 0<b by omega);refine⟨by omega,?_⟩;by_cases h2:a.tmod b<0;·rw[dL h2];have :=(hf.1 h2).2;rw[←this]at h;exact⟨⟨by omega,by omega⟩,h⟩
  ·rw[dR h2];rw[←(hf.2 h2).2]at h;exact h
theorem Bp.spec(a b:Int)(hp:Bp.pre (a,b,())):Bp.wp a b λr=>r=Bp.fn (a,b,()):=ZY (Q:=λr=>r=Bp.fn (a,b,())) hp rfl
def Bb(n:Int):Prop:=-2305843009213693952≤n∧n≤2305843009213693952
def linB(l:BH):Prop:=l.1.length≤1048576∧(∀n∈l.1,Bb n)∧Bb l.2
def To(c:G):Prop:=c.1=0∨c.1=1∨c.1=2∧1≤c.2.1∧c.2.1≤2305843009213693952
def condB(c:G):Prop:=To c∧linB c.2.2
def Bq(p:List G):Prop:=p.length≤1048576∧∀c∈p,condB c
def GB(b:Bool):G×Int:=(Z,if b then 1 else-1)
def LP(c:G):G×Int:=if Av c.2.2.1=0 then GB (decide (0≤c.2.2.2))else((0,0,c.2.2.1.map (·.tdiv (Av c.2.2.1)),c.2.2.2/(Av c.2.2.1:Int)),0)
def GO:List Int→Bool|[]=>false|n::l=>if n=0 then GO l else decide (n<0)
def JQ(c:G):Int:=if GO c.2.2.1 then-(Av c.2.2.1:Int)else(Av c.2.2.1:Int)
def Fl(c:G):G×Int:=if Av c.2.2.1=0∨c.2.2.2.tmod (Av c.2.2.1)≠0 then GB (decide (Av c.2.2.1=0)&&c.2.2.2==0)else((1,0,c.2.2.1.map (·.tdiv (JQ c)),c.2.2.2.tdiv (JQ c)),0)
def C5(c:G):Nat:=Av (c.2.1::c.2.2.1.map (·%c.2.1))
def JJ(c:G):G×Int:=if(c.2.2.2%c.2.1).tmod (C5 c)≠0 then GB false else if c.2.1=C5 c then GB true else((2,c.2.1.tdiv (C5 c),(c.2.2.1.map (·%c.2.1)).map (·.tdiv (C5 c)),(c.2.2.2%c.2.1).tdiv (C5 c)),0)
def BD(c:G):G×Int:=if c.1=0 then LP c else if c.1=1 then Fl c else JJ c
abbrev BY.fn(x:G×Int×Unit):List Int:=x.1.2.2.1.map (·.tdiv x.2.1)
abbrev BY.pre(x:G×Int×Unit):Prop:=x.2.1≠0∧x.1.2.2.1.length≤1048576∧DO x.1.2.2.1
abbrev CE.fn(x:Bool×Unit):G×Int:=GB x.1
abbrev CT.fn(x:G×Unit):G×Int:=LP x.1
abbrev CT.pre(x:G×Unit):Prop:=linB x.1.2.2
abbrev CS.fn(x:G×Unit):G×Int:=Fl x.1
abbrev CS.pre(x:G×Unit):Prop:=linB x.1.2.2
abbrev CQ.fn(x:G×Unit):G×Int:=JJ x.1
abbrev CQ.pre(x:G×Unit):Prop:=linB x.1.2.2∧1≤x.1.2.1∧x.1.2.1≤2305843009213693952
abbrev As.fn(x:G×Unit):G×Int:=BD x.1
abbrev As.pre(x:G×Unit):Prop:=condB x.1
def Dm(c:G):G×Int×Int:=if(BD c).2=0∧AG (BD c).1=false then(Z,0,3)else((BD c).1,(BD c).2,0)
abbrev Bj.fn(x:G×Unit):G×Int×Int:=Dm x.1
abbrev Bj.pre(x:G×Unit):Prop:=condB x.1
def Gn(l:BH)(k:Int):BH:=(l.1.map λn=>-n,k-l.2)
abbrev Ck.fn(x:BH×Int×Unit):BH:=Gn x.1 x.2.1
abbrev Ck.pre(x:BH×Int×Unit):Prop:=linB x.1∧Bb x.2.1
def Eb(c:G):List G:=if c.1=0 then[(0,0,Gn c.2.2 (-1))]else if c.1=1 then[(0,0,c.2.2.1,c.2.2.2-1),(0,0,Gn c.2.2 (-1))]else(List.range (c.2.1-1).toNat).map λ(r:Nat)=>((2,c.2.1,c.2.2.1,c.2.2.2-((r:Int)+1)):G)
abbrev CD.fn(x:G×Unit):List G:=Eb x.1
abbrev CD.pre(x:G×Unit):Prop:=AG x.1=true
def F3(n:Nat)(out:List G)(o:G):Option (List G):=if(Dm o).2.2≠0 then none else if 0<(Dm o).2.1 then some (out++[(0,0,List.replicate n 0,0)])else if(Dm o).2.1<0 then some out else some (out++[(Dm o).1])
def Dn(c:G):List G×Int:=if AG c=false then([],1)else match(Eb c).foldlM (F3 c.2.2.1.length) []with|none=>([],3)|some out=>if 400<out.length then([],3)else(out,0)
abbrev DF.fn(x:G×Unit):List G×Int:=Dn x.1
def Co(a b:Int):Int:=if a<b then-1 else if b<a then 1 else 0
def BT:List Int→List Int→Int|[],[]=>0|[],_::_=>-1|_::_,[]=>1|x::a,y::b=>if Co x y=0 then BT a b else Co x y
def Gp:List Int→Int|[]=>0|n::l=>if n=0 then Gp l else n
def E6(k:Int):Int:=if k=0 then 1 else if k=1 then 0 else 2
def Cd(a b:G):Int:=Gp [Co (E6 a.1) (E6 b.1),Co a.2.1 b.2.1,BT a.2.2.1 b.2.2.1,Co a.2.2.2 b.2.2.2]
abbrev C4.fn(x:Int×Unit):Bool:=false
abbrev CP.fn(x:Int×Int×Unit):Int:=Co x.1 x.2.1
abbrev Dr.fn(x:List Int×Unit):Int:=Gp x.1
abbrev Do.fn(x:List Int×List Int×Unit):Int:=BT x.1 x.2.1
def EY(k:Int):Prop:=k=0∨k=1∨k=2
abbrev Bl.fn(x:G×G×Unit):Int:=Cd x.1 x.2.1
abbrev Bl.pre(x:G×G×Unit):Prop:=EY x.1.1∧EY x.2.1.1
abbrev Da.fn(x:G×Unit):Bool:=!AG x.1
abbrev By.fn(x:G×G×Unit):Bool:=Cd x.1 x.2.1==0
abbrev By.pre(x:G×G×Unit):Prop:=EY x.1.1∧EY x.2.1.1
def DN{α:Type}(f:α→Bool):List α→Int→Int|[],_=>-1|x::l,i=>if f x then i else DN f l (i+1)
abbrev C1.fn(x:List G×((G→Prop)×(G→Bool))×Unit):Int:=DN x.2.1.2 x.1 0
abbrev C1.pre(x:List G×((G→Prop)×(G→Bool))×Unit):Prop:=∀c∈x.1,x.2.1.1 c
abbrev CN.fn(x:List G×((G→Prop)×(G→Bool))×Unit):Bool:=x.1.any x.2.1.2
abbrev CN.pre(x:List G×((G→Prop)×(G→Bool))×Unit):Prop:=∀c∈x.1,x.2.1.1 c
def BY.wp(x0:G)(x1:Int)(Q:List Int→Prop):Prop:=(0≤(x0.2.2.1.length:Int)∧x0.2.2.1.length≤(x0.2.2.1.length:Int)∧x0.2.2.1.length*((8:Nat):Int)≤140737488355328∧(x0.2.2.1.length:Int)≤9223372036854775807)∧Lp (σ:=Int×List Int) (λy3 R3=>let v2:=x0.2.2.1.getD y3.1.toNat 0;cond (decide (y3.1<x0.2.2.1.length)) ((0≤y3.1∧y3.1<x0.2.2.1.length)∧(x1≠0∧AD .i64 (Int.tdiv v2 x1))∧(0≤y3.1∧y3.1<y3.2.length)∧Int.toNat y3.1<y3.2.length∧AD .i64 (y3.1+1)∧R3 ( y3.1+1,List.set y3.2 y3.1.toNat (Int.tdiv v2 x1))) (Q y3.2)) (0,.replicate (Int.toNat x0.2.2.1.length) 0)
def CE.wp(x0:Bool)(Q:G×Int→Prop):Prop:=cond x0 (Q (Z,1)) (Q (Z,-1))
def CT.wp(x0:G)(Q:G×Int→Prop):Prop:=let v0:=Bo.fn (x0.2.2.1,());Bo.pre (x0.2.2.1,())∧cond (v0.1==0) (Q (CE.fn (decide (0≤x0.2.2.2),()))) (B7.pre (x0.2.2.2,(v0.1,()))∧BY.pre (x0,(v0.1,()))∧Q ((0,(0,( BY.fn (x0,(v0.1,())),(B7.fn (x0.2.2.2,(v0.1,()))).1))),0))
def CS.wp(x0:G)(Q:G×Int→Prop):Prop:=let v0:=Bo.fn (x0.2.2.1,());let v3:=Int.tdiv x0.2.2.2 (-v0.1);let v5:=BY.fn (x0,(v0.1,()));Bo.pre (x0.2.2.1,())∧( ! v0.1==0=true→! v0.1==0=true∧True)∧( ! v0.1==0=true→! v0.1==0=true∧True)∧((! v0.1==0)=true→(! v0.1==0)=true∧True)∧((! v0.1==0)=true→(! v0.1==0)=true∧(! v0.1==0)=true∧v0.1≠0)∧( ! v0.1==0=true→(! v0.1==0)=true∧True)∧((v0.1==0)=false→(! v0.1==0)=true)∧cond ( v0.1==0||Int.tmod x0.2.2.2 v0.1 !=0) (((v0.1==0)=true→(v0.1==0)=true∧True)∧((v0.1==0)=true→(v0.1==0)=true∧True)∧((v0.1==0)=true→(v0.1==0)=true∧True)∧((v0.1==0)=true→(v0.1==0)=true∧True)∧((v0.1==0)=true→(v0.1==0)=true)∧Q (CE.fn ( v0.1==0&&x0.2.2.2==0,()))) (Lp (σ:=Int) (λy2 R2=>let v2:=x0.2.2.1.getD y2.toNat 0;cond (decide (y2<x0.2.2.1.length)) ((0≤y2∧y2<x0.2.2.1.length)∧cond (v2 !=0) (cond (decide (v2<0)) (AD .i64 (-v0.1)∧BY.pre (x0,(-v0.1,()))∧(-v0.1≠0∧AD .i64 v3)∧Q ((1,(0,( BY.fn (x0,(-v0.1,())),v3))),0)) (BY.pre (x0,(v0.1,()))∧(v0.1≠0∧AD .i64 (Int.tdiv x0.2.2.2 v0.1))∧Q ((1,(0,(v5,Int.tdiv x0.2.2.2 v0.1))),0))) (AD .i64 (y2+1)∧R2 (y2+1))) (BY.pre (x0,(v0.1,()))∧(v0.1≠0∧AD .i64 (Int.tdiv x0.2.2.2 v0.1))∧Q ((1,(0,(v5,Int.tdiv x0.2.2.2 v0.1))),0))) 0)
def CQ.wp(x0:G)(Q:G×Int→Prop):Prop:=let v7:=Bp.fn (x0.2.2.2,(x0.2.1,()));(0≤(x0.2.2.1.length:Int)∧x0.2.2.1.length≤(x0.2.2.1.length:Int)∧x0.2.2.1.length*((8:Nat):Int)≤140737488355328∧(x0.2.2.1.length:Int)≤9223372036854775807)∧Lp (σ:=Int×Int×List Int) (λy2 R2=>let v2:=x0.2.2.1.getD y2.1.toNat 0;let v4:=List.set y2.2.2 y2.1.toNat (Bp.fn (v2,(x0.2.1,()))).1;let v5:=v4.getD y2.1.toNat 0;cond (decide (y2.1<x0.2.2.1.length)) ((0≤y2.1∧y2.1<x0.2.2.1.length)∧Bp.pre (v2,(x0.2.1,()))∧(0≤y2.1∧y2.1<y2.2.2.length)∧Int.toNat y2.1<y2.2.2.length∧(0≤y2.1∧y2.1<v4.length)∧Int.toNat y2.1<v4.length∧Bo.pre ([y2.2.1,v5],())∧AD .i64 (y2.1+1)∧R2 ( y2.1+1,((Bo.fn ([y2.2.1,v5],())).1,v4))) (Bp.pre (x0.2.2.2,(x0.2.1,()))∧y2.2.1≠0∧cond (Int.tmod v7.1 y2.2.1 !=0) (Q (CE.fn (false,()))) (cond (x0.2.1==y2.2.1) (Q ((((CE.fn (true,())).1).1,((((CE.fn (true,())).1).2).1,(((CE.fn (true,())).1).2).2)),(CE.fn (true,())).2)) (BY.pre ((0,(0,(y2.2.2,v7.1))),(y2.2.1,()))∧(y2.2.1≠0∧AD .i64 (Int.tdiv v7.1 y2.2.1))∧(y2.2.1≠0∧AD .i64 (Int.tdiv x0.2.1 y2.2.1))∧Q ((2,(Int.tdiv x0.2.1 y2.2.1,( BY.fn ((0,(0,(y2.2.2,v7.1))),(y2.2.1,())),Int.tdiv v7.1 y2.2.1))),0))))) (0,(x0.2.1,.replicate (Int.toNat x0.2.2.1.length) 0))
def As.wp(x0:G)(Q:G×Int→Prop):Prop:=cond (decide (x0.1=0)) (CT.pre ((0,x0.2),())∧Q (CT.fn ((0,x0.2),()))) (cond (decide (x0.1=1)) (CS.pre ((1,x0.2),())∧Q (CS.fn ((1,x0.2),()))) (cond (decide (x0.1=2)) (CQ.pre ((2,x0.2),())∧Q (CQ.fn ((2,x0.2),()))) False))
def Bj.wp(x0:G)(Q:G×Int×Int→Prop):Prop:=As.pre (x0,())∧(((As.fn (x0,())).2==0)=true→((As.fn (x0,())).2==0)=true∧True)∧(((As.fn (x0,())).2==0)=true→((As.fn (x0,())).2==0)=true∧True)∧(((As.fn (x0,())).2==0)=true→((As.fn (x0,())).2==0)=true)∧cond ((As.fn (x0,())).2==0&&! Ay.fn ((((As.fn (x0,())).1).1,((((As.fn (x0,())).1).2).1,(((As.fn (x0,())).1).2).2)),())) (Q (Z,(0,3))) (Q ((((As.fn (x0,())).1).1,((((As.fn (x0,())).1).2).1,(((As.fn (x0,())).1).2).2)),((As.fn (x0,())).2,0)))
def Ck.wp(x0:BH)(x1:Int)(Q:BH→Prop):Prop:=(0≤(x0.1.length:Int)∧x0.1.length≤(x0.1.length:Int)∧x0.1.length*((8:Nat):Int)≤140737488355328∧(x0.1.length:Int)≤9223372036854775807)∧AD .i64 (x1-x0.2)∧Lp (σ:=Int×List Int) (λy3 R3=>let v2:=x0.1.getD y3.1.toNat 0;cond (decide (y3.1<x0.1.length)) ((0≤y3.1∧y3.1<x0.1.length)∧AD .i64 (-v2)∧(0≤y3.1∧y3.1<y3.2.length)∧Int.toNat y3.1<y3.2.length∧AD .i64 (y3.1+1)∧R3 ( y3.1+1,List.set y3.2 y3.1.toNat (-v2))) (Q (y3.2,x1-x0.2))) (0,.replicate (Int.toNat x0.1.length) 0)
def CD.wp(x0:G)(Q:List G→Prop):Prop:=let v0:=Ck.fn (x0.2.2,(-1,()));Ck.pre (x0.2.2,(-1,()))∧cond (x0.1==0) (Q [(0,(0,v0))]) (cond (x0.1==1) (AD .i64 (x0.2.2.2-1)∧Q [(0,(0,(x0.2.2.1,x0.2.2.2-1))),(0,(0,v0))]) (Lp (σ:=Int×List G) (λy2 R2=>let v3:=[(2,(x0.2.1,(x0.2.2.1,x0.2.2.2-y2.1)))];cond (decide (y2.1<x0.2.1)) (AD .i64 (x0.2.2.2-y2.1)∧((y2.2.length+v3.length)*48≤140737488355328∧y2.2.length+v3.length≤9223372036854775807)∧AD .i64 (y2.1+1)∧R2 ( y2.1+1,y2.2++v3)) (Q y2.2)) (1,([]:List G))))
def DF.wp(x0:G)(Q:List G×Int→Prop):Prop:=let v0:=List.length (CD.fn (x0,()));let v4:=[(0,(0,(.replicate (Int.toNat x0.2.2.1.length) 0,0)))];cond (! Ay.fn (x0,())) (Q (([]:List G),1)) (CD.pre (x0,())∧Lp (σ:=Int×List G) (λy2 R2=>let v1:=List.getD (CD.fn (x0,())) y2.1.toNat Z;let v5:=[(((Bj.fn (v1,())).1).1,((((Bj.fn (v1,())).1).2).1,(((Bj.fn (v1,())).1).2).2))];cond (decide (y2.1<((v0:Nat):Int))) ((0≤y2.1∧y2.1<((v0:Nat):Int))∧Bj.pre (v1,())∧cond (((Bj.fn (v1,())).2).2 !=0) (Q (([]:List G),((Bj.fn (v1,())).2).2)) (cond (decide (0<((Bj.fn (v1,())).2).1)) ((0≤(x0.2.2.1.length:Int)∧x0.2.2.1.length≤(x0.2.2.1.length:Int)∧x0.2.2.1.length*((8:Nat):Int)≤140737488355328∧(x0.2.2.1.length:Int)≤9223372036854775807)∧((y2.2.length+v4.length)*48≤140737488355328∧y2.2.length+v4.length≤9223372036854775807)∧AD .i64 (y2.1+1)∧R2 ( y2.1+1,y2.2++v4)) (cond (decide (((Bj.fn (v1,())).2).1<0)) (AD .i64 (y2.1+1)∧R2 ( y2.1+1,y2.2)) (((y2.2.length+v5.length)*48≤140737488355328∧y2.2.length+v5.length≤9223372036854775807)∧AD .i64 (y2.1+1)∧R2 ( y2.1+1,y2.2++v5))))) (cond (decide (400<(y2.2.length:Int))) (Q (([]:List G),3)) (Q (y2.2,0)))) (0,([]:List G)))
def C4.wp(x0:Int)(Q:Bool→Prop):Prop:=Q (x0 !=x0)
def CP.wp(x0:Int)(x1:Int)(Q:Int→Prop):Prop:=let v1:=C4.fn (x1,());cond (C4.fn (x0,())) (cond v1 (Q 0) (Q (-1))) (cond v1 (Q 1) (cond (decide (x0<x1)) (Q (-1)) (cond (decide (x1<x0)) (Q 1) (Q 0))))
def Dr.wp(x0:List Int)(Q:Int→Prop):Prop:=Lp (σ:=Int) (λy2 R2=>let v0:=x0.getD y2.toNat 0;cond (decide (y2<x0.length)) ((0≤y2∧y2<x0.length)∧cond (v0 !=0) (Q v0) (AD .i64 (y2+1)∧R2 (y2+1))) (Q 0)) 0
def Do.wp(x0:List Int)(x1:List Int)(Q:Int→Prop):Prop:=Lp (σ:=Int) (λy3 R3=>let v2:=CP.fn ( x0.getD y3.toNat 0,( x1.getD y3.toNat 0,()));cond (decide (y3<x0.length)) ((0≤y3∧y3<x0.length)∧cond (decide (x1.length≤y3)) (Q 1) ((0≤y3∧y3<x1.length)∧cond (v2 !=0) (Q v2) (AD .i64 (y3+1)∧R3 (y3+1)))) (cond (decide (x0.length<(x1.length:Int))) (Q (-1)) (Q 0))) 0
def Bl.wp(x0:G)(x1:G)(Q:Int→Prop):Prop:=let v1:=[1,0,2];3=List.length (.replicate 3 (0:Int))∧(0≤x0.1∧x0.1<((3:Nat):Int))∧Int.toNat x0.1<v1.length∧(0≤x1.1∧x1.1<((3:Nat):Int))∧Int.toNat x1.1<v1.length∧Q (Dr.fn ([CP.fn ( v1.getD x0.1.toNat 0,( v1.getD x1.1.toNat 0,())),CP.fn (x0.2.1,(x1.2.1,())),Do.fn (x0.2.2.1,(x1.2.2.1,())),CP.fn (x0.2.2.2,(x1.2.2.2,()))],()))
def Da.wp(x0:G)(Q:Bool→Prop):Prop:=Q ! Ay.fn (x0,())
def By.wp(x0:G)(x1:G)(Q:Bool→Prop):Prop:=Bl.pre (x0,(x1,()))∧Q ( Bl.fn (x0,(x1,()))==0)
def C1.wp(x0:List G)(x1:(G→Prop)×(G→Bool))(Q:Int→Prop):Prop:=Lp (σ:=Int) (λy3 R3=>let v0:=x0.getD y3.toNat Z;cond (decide (y3<x0.length)) ((0≤y3∧y3<x0.length)∧x1.1 v0∧cond (x1.2 v0) (Q y3) (AD .i64 (y3+1)∧R3 (y3+1))) (Q (-1))) 0
def CN.wp(x0:List G)(x1:(G→Prop)×(G→Bool))(Q:Bool→Prop):Prop:=C1.pre (x0,((λ(a3:G)=>x1.1 a3,λ(a3:G)=>x1.2 a3),()))∧Q (decide (0≤C1.fn (x0,((λ(a3:G)=>x1.1 a3,λ(a3:G)=>x1.2 a3),()))))
theorem linB.ints{l:BH}(h:linB l):DO l.1:=λn hn=>by have :=h.2.1 n hn;unfold Bb at this;omega
theorem MB(n g:Int):(n.tdiv g).natAbs≤n.natAbs:=by rw[Int.natAbs_tdiv];exact Nat.div_le_self _ _
theorem MZ{n g:Int}(h:-9223372036854775807≤n)(h2:n≤9223372036854775807):AD .i64 (n.tdiv g):=by have :=MB n g;exact⟨by omega,by omega⟩
theorem BY.spec(c:G)(g:Int)(hp:BY.pre (c,g,())):BY.wp c g λr=>r=BY.fn (c,g,()):=by
 obtain⟨h1,h2,h3⟩:=hp;simp only at h1 h2 h3;simp only[BY.wp,dP];refine⟨⟨by omega,by omega,by omega,by omega⟩,?_⟩;refine Lp.fill c.2.2.1 0 0 (·.tdiv g) (by omega) (λi out R hi hi' hf ho hR=>?_) λR=>?_;·simp only[dL hi',dP];have hn:=h3 _ (BQ (d:=0) hi);exact⟨⟨by omega,hi'⟩,⟨h1,MZ hn.1 hn.2⟩,⟨by omega,by omega⟩,by omega,hf,hR⟩
 ·simp only[eB,eK,dN]
theorem CE.spec(b:Bool):CE.wp b λr=>r=CE.fn (b,()):=by cases b<;>rfl
theorem SD:∀{l:List Int}{g:Nat},l.foldl (λg n=>Nat.gcd g n.natAbs) g∣g∧∀n∈l,l.foldl (λg n=>Nat.gcd g n.natAbs) g∣n.natAbs
 |[],g=>⟨Nat.dvd_refl _,λn hn=>by cases hn⟩|m::l,g=>by
  obtain⟨h1,h2⟩:=SD (l:=l) (g:=Nat.gcd g m.natAbs);refine⟨Nat.dvd_trans h1 (Nat.gcd_dvd_left _ _),λn hn=>?_⟩;rcases List.mem_cons.1 hn with rfl|hn;·exact Nat.dvd_trans h1 (Nat.gcd_dvd_right _ _)
  ·exact h2 n hn
theorem XU{l:List Int}(h:Av l=0):∀n∈l,n=0:=λn hn=>by have :=(SD (l:=l) (g:=0)).2 n hn;have h':l.foldl (λg n=>Nat.gcd g n.natAbs) 0=0:=h;rw[h',Nat.zero_dvd]at this;omega
theorem CT.spec(c:G)(hp:CT.pre (c,())):CT.wp c λr=>r=CT.fn (c,()):=by
 have hb:linB c.2.2:=hp;obtain⟨h1,h2,h3⟩:=id hb;unfold Bb at h3;simp only[CT.wp,Bo.fn,CT.fn,LP,CE.fn];refine⟨hb.ints,?_⟩;by_cases hg:Av c.2.2.1=0;·rw[hg];simp
 ·rw[beq_eq_false_iff_ne.2 (show((Av c.2.2.1:Nat):Int)≠0 by omega),dK hg];refine⟨⟨by show-9223372036854775807≤c.2.2.2;omega,by show c.2.2.2≤9223372036854775807;omega⟩,⟨by show((Av c.2.2.1:Nat):Int)≠0;omega,h1,hb.ints⟩,?_⟩;simp only[BY.fn,B7.fn];rw[dK (show¬((Av c.2.2.1:Nat):Int)<1 by omega)]
theorem Rw{l:List Int}{i:Nat}(h:∀j,j<i→l.getD j 0=0):GO l=GO (l.drop i):=by induction i generalizing l with|zero=>rfl|succ i ih=>cases l with|nil=>rfl|cons n l=>have h0:=h 0 (by omega);simp at h0;simp only[GO,dO h0,iA];exact ih λj hj=>by have :=h (j+1) (by omega);simpa using this
theorem CS.spec(c:G)(hp:CS.pre (c,())):CS.wp c λr=>r=CS.fn (c,()):=by
 have hb:linB c.2.2:=hp;obtain⟨h1,h2,h3⟩:=id hb;unfold Bb at h3;have OQ:Av c.2.2.1≤9223372036854775807:=SE hb.ints;simp only[CS.wp,Bo.fn,CE.fn,BY.fn];have hg:∀b:Bool,b=true→b=true∧True:=λb h=>⟨h,trivial⟩;refine⟨hb.ints,hg _,hg _,hg _,?_,hg _,λh=>by rw[h];rfl,?_⟩;·intro h;refine⟨h,h,?_⟩;intro e;rw[e]at h;simp at h
 have hfn:CS.fn (c,())=Fl c:=rfl;by_cases hz:Av c.2.2.1=0;·rw[hfn,Fl,dO (.inl hz),hz];simp
 ·have J6:((Av c.2.2.1:Nat):Int)≠0:=by omega
  rw[beq_eq_false_iff_ne.2 J6];by_cases hm:c.2.2.2.tmod (Av c.2.2.1)≠0;·rw[bne_iff_ne.2 hm,hfn,Fl,dO (.inr hm)];simp[hz]
  ·have hm':c.2.2.2.tmod (Av c.2.2.1)=0:=by simpa using hm
   rw[hm',eI,jZ,dN,hfn,Fl,dK (by simp[hz,hm'])];have LX:∀g:Int,g≠0→BY.pre (c,g,()):=λg hg=>⟨hg,h1,hb.ints⟩;have OU:∀g:Int,AD .i64 (c.2.2.2.tdiv g):=λg=>MZ (by omega) (by omega);refine Lp.iter c.2.2.1.length (λi y=>y=(i:Int)∧∀j,j<i→c.2.2.1.getD j 0=0) ⟨rfl,λj hj=>absurd hj (by omega)⟩ ?_;rintro i y hle⟨rfl,hi⟩R hR;by_cases e:i<c.2.2.1.length
   ·rw[dL (show(i:Int)<(c.2.2.1.length:Int)by omega)];refine⟨⟨by omega,by omega⟩,?_⟩;simp only[dP];by_cases hn:c.2.2.1.getD i 0=0
    ·simp only[hn,eI,dN];refine⟨⟨by omega,by omega⟩,hR e _ ⟨by omega,λj hj=>?_⟩⟩;by_cases ej:j=i;·subst ej;exact hn
     ·exact hi j (by omega)
    ·simp only[bne_iff_ne.2 hn,dV];have hfn:GO c.2.2.1=decide (c.2.2.1.getD i 0<0):=by rw[Rw hi,fU e];rw[B2 e]at hn;simp only[GO,dK hn,B2 e]
     by_cases Jt:c.2.2.1.getD i 0<0;·rw[dL Jt]at hfn;simp only[dL Jt,dV];refine⟨⟨by omega,by omega⟩,LX _ (by omega),⟨by omega,OU _⟩,?_⟩;simp only[JQ,hfn,hP]
     ·rw[dR Jt]at hfn;simp only[dR Jt,dN];refine⟨LX _ J6,⟨J6,OU _⟩,?_⟩;simp[JQ,hfn]
   ·have :i=c.2.2.1.length:=by omega
    subst this;rw[dR (eB _)];refine⟨LX _ J6,⟨J6,OU _⟩,?_⟩;have hfn:GO c.2.2.1=false:=by rw[Rw hi,iN];rfl
    simp[JQ,hfn]
theorem DE{α:Type}{l:List α}{i:Nat}(d:α)(h:i<l.length):l.take (i+1)=l.take i++[l.getD i d]:=by rw[B2 h];simp
theorem XG{α β:Type}{l:List α}{d:α}{z:β}{f:α→β}{i:Nat}(e:i<l.length):((l.take i).map f++List.replicate (l.length-i) z).set i (f (l.getD i d))=(l.take (i+1)).map f++List.replicate (l.length-(i+1)) z:=by
 have h1:l.length-i=l.length-(i+1)+1:=by omega
 rw[h1,iB,jE _ _ (by simp;omega)];have h3:i-((l.take i).map f).length=0:=by simp;omega
 rw[h3,lO,DE d e,iU,gA];rfl
theorem XQ(m:Int)(l:List Int)(n:Int):Av (m::(l++[n]))=Nat.gcd (Av (m::l)) n.natAbs:=by simp only[Av,gC,iF,List.foldl_nil]
theorem XS(a b:Int):Av [a,b]=Nat.gcd a.natAbs b.natAbs:=by simp[Av]
theorem SG{m:Int}(h:1≤m)(l:List Int):0<Av (m::l):=by
 rcases lQ (Av (m::l))with h0|h0;·have :=XU h0 m (by simp);omega
 ·exact h0
theorem SF{m:Int}(h:1≤m)(l:List Int):Av (m::l)≤m.toNat:=by have :=R8 (l:=l) m.natAbs (by omega);simp only[Av,gC,lZ];omega
theorem CQ.spec(c:G)(hp:CQ.pre (c,())):CQ.wp c λr=>r=CQ.fn (c,()):=by
 obtain⟨hb,FO,Lh⟩:=hp;simp only at hb FO Lh;obtain⟨h1,h2,h3⟩:=id hb;unfold Bb at h3;have hfn:CQ.fn (c,())=JJ c:=rfl;simp only[CQ.wp,dP];refine⟨⟨by omega,by omega,by omega,by omega⟩,?_⟩;have YN:∀n,Bp.fn (n,c.2.1,())=(n%c.2.1,0):=λn=>by simp only[Bp.fn];rw[dK (by omega)]
 simp only[YN];refine Lp.iter c.2.2.1.length (λi y=>y=((i:Int),((Av (c.2.1::(c.2.2.1.take i).map (·%c.2.1)):Nat):Int),(c.2.2.1.take i).map (·%c.2.1)++List.replicate (c.2.2.1.length-i) 0)) ?_ ?_
 ·have :Av [c.2.1]=c.2.1.natAbs:=by simp[Av]
  simp[this];omega
 rintro i y hle rfl R hR;have hr:∀n:Int,0≤n%c.2.1∧n%c.2.1<c.2.1:=λn=>⟨iT _ (by omega),iD _ (by omega)⟩;have OQ:=SF FO ((c.2.2.1.take i).map (·%c.2.1));by_cases e:i<c.2.2.1.length
 ·have IU:=XG (z:=(0:Int)) (f:=(·%c.2.1)) (d:=(0:Int)) e;simp only[dL (show(i:Int)<(c.2.2.1.length:Int)by omega),dP,dV];rw[IU];have hlen:((c.2.2.1.take (i+1)).map (·%c.2.1)++List.replicate (c.2.2.1.length-(i+1)) (0:Int)).length=c.2.2.1.length:=by simp;omega
  have BA:((c.2.2.1.take (i+1)).map (·%c.2.1)++List.replicate (c.2.2.1.length-(i+1)) (0:Int)).getD i 0=c.2.2.1.getD i 0%c.2.1:=by rw[B2 (by rw[hlen];exact e),List.getElem_append_left (by simp;omega),B2 e];simp
  rw[BA];have hq:=hr (c.2.2.1.getD i 0);refine⟨⟨by omega,by omega⟩,by show c.2.1≤9223372036854775807;omega,⟨by omega,by simp;omega⟩,by simp;omega,⟨by omega,by rw[hlen];omega⟩,by rw[hlen];exact e,?_,⟨by omega,by omega⟩,hR e _ ?_⟩;·intro n hn;simp only[eA,kH,or_false]at hn;rcases hn with rfl|rfl<;>constructor<;>omega
  ·simp only[Bo.fn,XS,Int.natAbs_natCast];rw[DE 0 e,iU,fK,lN,XQ];rfl
 ·have :i=c.2.2.1.length:=by omega
  subst this;simp only[eD,lR,lI,gZ,eB,eK,dN];have AW:=SG FO (c.2.2.1.map (·%c.2.1));rw[eD]at OQ;have X6:C5 c=Av (c.2.1::c.2.2.1.map (·%c.2.1)):=rfl;rw[←X6]at AW OQ⊢;have hq:=hr c.2.2.2;refine⟨by show c.2.1≤9223372036854775807;omega,by omega,?_⟩;rw[hfn,JJ];by_cases ht:(c.2.2.2%c.2.1).tmod (C5 c)≠0;·rw[bne_iff_ne.2 ht,dO ht];rfl
  ·rw[dK ht];have ht:(c.2.2.2%c.2.1).tmod (C5 c)=0:=by simpa using ht
   rw[ht,eI];by_cases he:c.2.1=C5 c;·rw[dO he];simp only[beq_iff_eq.2 he,dV,dN]
   ·rw[dK he,beq_eq_false_iff_ne.2 he];refine⟨⟨by show((C5 c:Nat):Int)≠0;omega,by simpa using h1,λn hn=>?_⟩,⟨by omega,MZ (by omega) (by omega)⟩,⟨by omega,MZ (by omega) (by omega)⟩,rfl⟩;simp only[iI]at hn;obtain⟨a,_,rfl⟩:=hn;have :=hr a;constructor<;>omega
theorem As.spec(c:G)(hp:As.pre (c,())):As.wp c λr=>r=As.fn (c,()):=by
 obtain⟨hk,hl⟩:To c∧linB c.2.2:=hp;obtain⟨k,r⟩:=c;simp only[As.wp,As.fn,BD,CT.fn,CS.fn,CQ.fn];rcases hk with h|h|⟨h,h2,h3⟩;·have h:k=0:=h;subst h;exact⟨hl,rfl⟩
 ·have h:k=1:=h;subst h;exact⟨hl,rfl⟩
 ·have h:k=2:=h;subst h;exact⟨⟨hl,h2,h3⟩,rfl⟩
theorem Bj.spec(c:G)(hp:Bj.pre (c,())):Bj.wp c λr=>r=Bj.fn (c,()):=by
 simp only[Bj.wp,As.fn,Ay.fn,Bj.fn,Dm];have hg:∀b:Bool,b=true→b=true∧True:=λb h=>⟨h,trivial⟩;refine⟨hp,hg _,hg _,λh=>h,?_⟩;by_cases h1:(BD c).2=0;·cases h2:AG (BD c).1 with|true=>simp[h1]|false=>simp[h1]
 ·simp[h1]
theorem Ck.spec(l:BH)(k:Int)(hp:Ck.pre (l,k,())):Ck.wp l k λr=>r=Ck.fn (l,k,()):=by
 obtain⟨⟨h1,h2,h3⟩,h4⟩:=hp;simp only at h1 h2 h3 h4;unfold Bb at h3 h4;simp only[Ck.wp,dP];refine⟨⟨by omega,by omega,by omega,by omega⟩,⟨by omega,by omega⟩,?_⟩;refine Lp.fill l.1 0 0 (λn=>-n) (by omega) (λi out R hi hi' hf ho hR=>?_) λR=>?_;·simp only[dL hi',dP];have hn:=h2 _ (BQ (d:=0) hi);unfold Bb at hn;exact⟨⟨by omega,hi'⟩,⟨by omega,by omega⟩,⟨by omega,by omega⟩,by omega,hf,hR⟩
 ·simp only[eB,eK,dN];rfl
theorem BF.bound{n:Int}(h:BF n=true):-1048576≤n∧n≤1048576:=by simpa[BF]using h
theorem Az.b{l:BH}(h:Az l=true):l.1.length≤12∧(∀n∈l.1,-1048576≤n∧n≤1048576)∧-1048576≤l.2∧l.2≤1048576:=by simp only[Az,eP,gT,gJ]at h;exact⟨by omega,λn hn=>BF.bound (h.1 n hn),BF.bound h.2.2⟩
theorem AG.lin{c:G}(h:AG c=true):Az c.2.2=true:=by
 unfold AG at h;split at h;·simp only[eP]at h;exact h.2
 ·split at h;·simp only[eP]at h;exact h.2
  ·cases h
theorem AG.kind{c:G}(h:AG c=true):c.1=0∧c.2.1=0∨c.1=1∧c.2.1=0∨c.1=2∧1≤c.2.1∧c.2.1≤512:=by
 unfold AG at h;split at h
 ·rename_i hk;simp only[eP,beq_iff_eq]at h;rcases hk with hk|hk;·exact .inl ⟨hk,h.1⟩
  ·exact .inr (.inl ⟨hk,h.1⟩)
 ·split at h;·rename_i hk;simp only[eP,gJ]at h;exact .inr (.inr ⟨hk,h.1.1,h.1.2⟩)
  ·cases h
theorem Az.linB{l:BH}(h:Az l=true):linB l:=by have :=Az.b h;exact⟨by omega,λn hn=>by have :=this.2.1 n hn;exact⟨by omega,by omega⟩,by omega,by omega⟩
theorem AG.condB{c:G}(h:AG c=true):condB c:=by
 refine⟨?_,Az.linB (AG.lin h)⟩;rcases AG.kind h with h|h|h;·exact .inl h.1
 ·exact .inr (.inl h.1)
 ·exact .inr (.inr ⟨h.1,h.2.1,by omega⟩)
theorem CD.spec(c:G)(hp:CD.pre (c,())):CD.wp c λr=>r=CD.fn (c,()):=by
 have hv:AG c=true:=hp;have hl:=Az.b (AG.lin hv);simp only[CD.wp,Ck.fn,CD.fn,Eb];refine⟨⟨Az.linB (AG.lin hv),show Bb (-1)from⟨by decide,by decide⟩⟩,?_⟩;rcases AG.kind hv with h|h|h;·rw[h.1];rfl
 ·rw[h.1];exact⟨⟨by omega,by omega⟩,rfl⟩
 ·rw[h.1];simp only[show((2:Int)==0)=false from rfl,show((2:Int)==1)=false from rfl,dN];refine Lp.iter (c.2.1-1).toNat (λi y=>y=((i:Int)+1,(List.range i).map λ(r:Nat)=>((2,c.2.1,c.2.2.1,c.2.2.2-((r:Int)+1)):G))) (by simp) ?_;rintro i y hle rfl R hR;by_cases e:(i:Int)+1<c.2.1;·simp only[dL e,dV,fB,iZ,dX,eC];refine⟨⟨by omega,by omega⟩,⟨by omega,by omega⟩,⟨by omega,by omega⟩,hR (by omega) _ ?_⟩;simp[List.range_succ]
  ·simp only[dR e,dN];have :i=(c.2.1-1).toNat:=by omega
   subst this;simp
theorem ZP(c:G):(Dm c).2.2=0∨(Dm c).2.2=3:=by
 unfold Dm;split;·exact .inr rfl
 ·exact .inl rfl
theorem Zj{c:G}(h:AG c=true):(Eb c).length≤512:=by
 unfold Eb;rcases AG.kind h with h|h|h;·rw[dO h.1];simp
 ·rw[dK (by omega),dO h.1];simp
 ·rw[dK (by omega),dK (by omega)];simp;omega
theorem Zi{c:G}(h:AG c=true):∀o∈Eb c,condB o:=by
 have hl:=Az.b (AG.lin h);have TB:linB (Gn c.2.2 (-1)):=by
  refine⟨by simp[Gn];omega,λn hn=>?_,?_,?_⟩;·simp only[Gn,iI]at hn;obtain⟨a,ha,rfl⟩:=hn;have :=hl.2.1 a ha;exact⟨by omega,by omega⟩
  ·simp only[Gn];omega
  ·simp only[Gn];omega
 have hb:∀n∈c.2.2.1,Bb n:=λn hn=>by have :=hl.2.1 n hn;exact⟨by omega,by omega⟩
 intro o ho;unfold Eb at ho;rcases AG.kind h with h|h|h;·rw[dO h.1]at ho;simp only[eN]at ho;subst ho;exact⟨.inl rfl,TB⟩
 ·rw[dK (by omega),dO h.1]at ho;simp only[eA,kH,or_false]at ho;rcases ho with rfl|rfl;·exact⟨.inl rfl,by simp only;omega,hb,by simp only;omega,by simp only;omega⟩
  ·exact⟨.inl rfl,TB⟩
 ·rw[dK (by omega),dK (by omega)]at ho;simp only[iI,List.mem_range]at ho;obtain⟨r,hr,rfl⟩:=ho;exact⟨.inr (.inr ⟨rfl,h.2.1,by simp only;omega⟩),by simp only;omega,hb,by simp only;omega,by simp only;omega⟩
theorem Zb{n:Nat}{out:List G}{o:G}{out':List G}(h:F3 n out o=some out'):out'.length≤out.length+1:=by
 unfold F3 at h;split at h;·cases h
 ·split at h;·cases h;simp
  ·split at h;·cases h;omega
   ·cases h;simp
theorem Nt{α β:Type}{f:List β→α→Option (List β)}(hf:∀t x t',f t x=some t'→t'.length≤t.length+1):∀(l:List α)(a t:List β),l.foldlM f a=some t→t.length≤a.length+l.length|[],a,t,h=>by cases h;simp|x::l,a,t,h=>by rw[fF]at h;cases hx:f a x with|none=>rw[hx]at h;cases h|some b=>rw[hx]at h;have :=Nt hf l b t h;have :=hf a x b hx;simp only[dX];omega
theorem DF.spec(c:G):DF.wp c λr=>r=DF.fn (c,()):=by simp only[DF.wp,Ay.fn,DF.fn,Dn,CD.fn,Bj.fn,dP];cases hv:AG c with|false=>simp|true=>
 simp only[fY,dN,Bool.true_eq_false,gK];have hl:=Az.b (AG.lin hv);have GY:=Zj hv;have Bw:=Zi hv;refine⟨hv,?_⟩;refine Lp.foldO (Eb c) Z (F3 c.2.2.1.length) [] (by omega) (λi t R hi hi' hf ht hR hn=>?_) λt R ht=>?_
 ·have Gb:t.length≤512:=by have :=Nt (λ_ _ _ h=>Zb h) _ _ _ ht;simp only[eM,eC]at this;omega
  have B3:=BQ (d:=Z) hi;simp only[dL hi',dP,dV];refine⟨⟨by omega,hi'⟩,Bw _ B3,?_⟩;unfold F3 at hR;rcases ZP ((Eb c).getD i Z)with h0|h0
  ·simp only[h0,eI,dN,ne_eq,kB,gK]at hR⊢;by_cases h1:0<(Dm ((Eb c).getD i Z)).2.1;·simp only[h1,hP]at hR;simp only[dL h1,dV,dX,eC];exact⟨⟨by omega,by omega,by omega,by omega⟩,⟨by omega,by omega⟩,hf,hR _ rfl⟩
   ·simp only[h1,gK]at hR;simp only[dR h1,dN];by_cases h2:(Dm ((Eb c).getD i Z)).2.1<0;·simp only[h2,hP]at hR;simp only[dL h2,dV];exact⟨hf,hR _ rfl⟩
    ·simp only[h2,gK]at hR;simp only[dR h2,dN,dX,eC];exact⟨⟨by omega,by omega⟩,hf,hR _ rfl⟩
  ·simp only[h0];rw[hn (by unfold F3;rw[dO (by rw[h0];decide)])];rfl
 ·simp only[eB,eK,dN];rw[ht];simp only;by_cases h4:400<t.length;·rw[dO h4,dL (show(400:Int)<(t.length:Int)by omega)];rfl
  ·rw[dK h4,dR (show¬(400:Int)<(t.length:Int)by omega)];rfl
theorem C4.spec(n:Int):C4.wp n λr=>r=C4.fn (n,()):=by simp[C4.wp,C4.fn]
theorem CP.spec(a b:Int):CP.wp a b λr=>r=CP.fn (a,b,()):=by
 simp only[CP.wp,C4.fn,CP.fn,Co,dN];by_cases h:a<b;·simp[h]
 ·by_cases h2:b<a<;>simp[h,h2]
theorem Zh{l:List Int}{i:Nat}(h:∀j,j<i→l.getD j 0=0):Gp l=Gp (l.drop i):=by induction i generalizing l with|zero=>rfl|succ i ih=>cases l with|nil=>rfl|cons n l=>have h0:=h 0 (by omega);simp at h0;simp only[Gp,dO h0,iA];exact ih λj hj=>by have :=h (j+1) (by omega);simpa using this
theorem Dr.spec(l:List Int)(hl:l.length≤9223372036854775807):Dr.wp l λr=>r=Dr.fn (l,()):=by
 refine Lp.iter l.length (λi y=>y=(i:Int)∧∀j,j<i→l.getD j 0=0) ⟨rfl,λj hj=>absurd hj (by omega)⟩ ?_;rintro i y hle⟨rfl,hi⟩R hR;have hd:=Zh hi;by_cases e:i<l.length
 ·simp only[dL (show(i:Int)<(l.length:Int)by omega),dP,dV];refine⟨⟨by omega,by omega⟩,?_⟩;rw[fU e]at hd;by_cases h0:l.getD i 0=0
  ·simp only[h0,eI,dN];refine⟨⟨by omega,by omega⟩,hR e _ ⟨by omega,λj hj=>?_⟩⟩;by_cases ej:j=i;·subst ej;exact h0
   ·exact hi j (by omega)
  ·simp only[bne_iff_ne.2 h0,dV];rw[B2 e]at h0⊢;simp only[Gp,dK h0]at hd;exact hd.symm
 ·have :i=l.length:=by omega
  subst this;simp only[eB,eK,dN];rw[iN]at hd;exact hd.symm
theorem Do.spec(a b:List Int)(hl:a.length≤9223372036854775807):Do.wp a b λr=>r=Do.fn (a,b,()):=by
 refine Lp.iter a.length (λi y=>y=(i:Int)∧i≤b.length∧BT a b=BT (a.drop i) (b.drop i)) ⟨rfl,fW _,rfl⟩ ?_;rintro i y hle⟨rfl,cV,hd⟩R hR;have hfn:Do.fn (a,b,())=BT a b:=rfl;rw[hfn];by_cases e:i<a.length
 ·simp only[dL (show(i:Int)<(a.length:Int)by omega),dP,dV,CP.fn];refine⟨⟨by omega,by omega⟩,?_⟩;rw[fU e]at hd;by_cases hb:i<b.length
  ·rw[dR (show¬(b.length:Int)≤(i:Int)by omega)];rw[fU hb]at hd;refine⟨⟨by omega,by omega⟩,?_⟩;rw[B2 e,B2 hb];simp only[BT]at hd;by_cases hc:Co a[i] b[i]=0;·rw[dO hc]at hd;rw[hc,eI];exact⟨⟨by omega,by omega⟩,hR e _ ⟨by omega,hb,hd⟩⟩
   ·rw[dK hc]at hd;rw[bne_iff_ne.2 hc];exact hd.symm
  ·rw[dL (show(b.length:Int)≤(i:Int)by omega)];rw[jB (show b.length≤i by omega)]at hd;exact hd.symm
 ·have :i=a.length:=by omega
  subst this;simp only[eB,eK,dN];rw[iN]at hd;by_cases hb:a.length<b.length;·rw[dL (show(a.length:Int)<(b.length:Int)by omega)];rw[fU hb]at hd;exact hd.symm
  ·rw[dR (show¬(a.length:Int)<(b.length:Int)by omega)];rw[jB (show b.length≤a.length by omega)]at hd;exact hd.symm
theorem Bl.spec(a b:G)(hp:Bl.pre (a,b,())):Bl.wp a b λr=>r=Bl.fn (a,b,()):=by obtain⟨ha,hb⟩:=hp;obtain⟨ka,ma,ca⟩:=a;obtain⟨kb,mb,cb⟩:=b;simp only[Bl.wp,Bl.fn,Cd,Dr.fn,CP.fn,Do.fn];rcases ha with h|h|h<;>rcases hb with h'|h'|h'<;>(simp only at h h';subst h h';simp[E6])
theorem Da.spec(c:G):Da.wp c λr=>r=Da.fn (c,()):=rfl
theorem By.spec(a b:G)(hp:By.pre (a,b,())):By.wp a b λr=>r=By.fn (a,b,()):=⟨hp,rfl⟩
theorem TX{α:Type}{f:α→Bool}{l:List α}{d:α}{i:Nat}(h:∀j,j<i→f (l.getD j d)=false)(hi:i≤l.length)(k:Int):DN f l k=DN f (l.drop i) (k+i):=by induction i generalizing l k with|zero=>simp|succ i ih=>cases l with|nil=>simp at hi|cons x l=>have h0:=h 0 (by omega);simp at h0;simp only[DN,h0,eW,gK,iA];rw[ih (λj hj=>by have :=h (j+1) (by omega);simpa using this) (by simpa using hi)];congr 1;omega
theorem C1.spec(l:List G)(f:(G→Prop)×(G→Bool))(hl:l.length≤9223372036854775807)(hp:C1.pre (l,f,())):C1.wp l f λr=>r=C1.fn (l,f,()):=by
 refine Lp.iter l.length (λi y=>y=(i:Int)∧∀j,j<i→f.2 (l.getD j Z)=false) ⟨rfl,λj hj=>absurd hj (by omega)⟩ ?_;rintro i y hle⟨rfl,hi⟩R hR;have hd:=TX hi hle 0;have hfn:C1.fn (l,f,())=DN f.2 l 0:=rfl;rw[hfn];by_cases e:i<l.length;·simp only[dL (show(i:Int)<(l.length:Int)by omega),dP,dV];refine⟨⟨by omega,by omega⟩,hp _ (BQ e),?_⟩;rw[fU e]at hd;cases h0:f.2 (l.getD i Z)with|true=>rw[B2 e]at h0;simp only[DN,h0,hP]at hd;show(i:Int)=_;omega|false=>
  refine⟨⟨by omega,by omega⟩,hR e _ ⟨by omega,λj hj=>?_⟩⟩;by_cases ej:j=i;·subst ej;exact h0
  ·exact hi j (by omega)
 ·have :i=l.length:=by omega
  subst this;simp only[eB,eK,dN];rw[iN]at hd;exact hd.symm
theorem Ot{α:Type}{f:α→Bool}:∀{l:List α}{k:Int},0≤k→decide (0≤DN f l k)=l.any f
 |[],k,_=>by simp[DN]|x::l,k,hk=>by
  simp only[List.any_cons];by_cases h:f x=true;·simp[DN,h,hk]
  ·rw[show DN f (x::l) k=DN f l (k+1)by simp[DN,h],Ot (by omega)];simp[h]
theorem CN.spec(l:List G)(f:(G→Prop)×(G→Bool))(hp:CN.pre (l,f,())):CN.wp l f λr=>r=CN.fn (l,f,()):=⟨hp,Ot (mC 0)⟩
def A3(l:List Int)(s:Int):List Int:=l.flatMap λn=>Aq (s*n)++[44]
def Bn(p:List G):List Int:=p.flatMap λc=>Aq c.1++[58]++Aq c.2.1++[58]++A3 c.2.2.1 1++Aq c.2.2.2++[59]
abbrev BB.fn(x:List Int×Int×Unit):ByteArray:=BM (A3 x.1 x.2.1)
abbrev BB.pre(x:List Int×Int×Unit):Prop:=x.1.length≤1048576∧DO x.1∧(x.2.1=1∨x.2.1=-1)
abbrev Bc.fn(x:List G×Unit):ByteArray:=BM (Bn x.1)
def UM(p:List G):Prop:=p.length≤1048576∧∀c∈p,c.2.2.1.length≤4096∧DO c.2.2.1∧DO [c.1,c.2.1,c.2.2.2]
abbrev Bc.pre(x:List G×Unit):Prop:=UM x.1
def Dk(C:List Int)(out:List G):Option Nat:=out.findIdx? λd=>decide (d.1=0∧d.2.2.1=C)
def Hg(d:G)(k:Int):G:=(d.1,d.2.1,d.2.2.1,min d.2.2.2 k)
def EK(out:List G)(c:G):List G:=if c.1≠0 then out++[c]else match Dk c.2.2.1 out with|some i=>out.set i (Hg (out.getD i Z) c.2.2.2)|none=>out++[c]
def Dl(l:List G):List G:=l.foldl EK []
abbrev CM.fn(x:List G×Unit):List G:=Dl x.1
def T7(l:List G):Prop:=l.length≤1048576∧∀c∈l,c.2.2.1.length≤1048576∧DO c.2.2.1
abbrev CM.pre(x:List G×Unit):Prop:=T7 x.1
def F2(C:List Int):List Int:=C.map λn=>-n
def EZ(C:List Int):List G→Nat→Option Nat|[],_=>none|d::l,i=>match EZ C l (i+1)with|some j=>some j|none=>if d.1=0∧d.2.2.1=C then some i else none
def FZ(l:List G)(st:List G×(Int→Option Bool))(ic:Nat×G):Option (List G×(Int→Option Bool)):=if(st.2 (ic.1:Int)).getD false then some st else match if ic.2.1≠0 then none else EZ (F2 ic.2.2.2.1) l 0 with|none=>some (st.1++[ic.2],st.2)|some j=>if ic.2.2.2.2+(l.getD j Z).2.2.2<0 then none else if ic.2.2.2.2+(l.getD j Z).2.2.2=0 then some (st.1++[(BD (1,0,ic.2.2.2)).1],Bm st.2 (j:Int) true)else some (st.1++[ic.2],st.2)
def GD(l:List G):List (Nat×G):=(List.range l.length).map λi=>(i,l.getD i Z)
def Ec(l:List G):Option (List G):=((GD l).foldlM (FZ l) ([],λ_=>none)).map (·.1)
abbrev B9.fn(x:List G×Unit):List G×Bool:=match Ec x.1 with|none=>([],true)|some out=>(out,false)
abbrev B9.pre(x:List G×Unit):Prop:=Bq x.1
def DH(C:List Int)(l:List G):Option Int:=(l.reverse.find? λd=>decide (d.1=1∧d.2.2.1=C)).map (·.2.2.2)
def FD(seen:List G)(c:G):Option (List G):=if c.1≠1 then some (seen++[c])else match DH c.2.2.1 seen with|some n=>if n≠c.2.2.2 then none else some (seen++[c])|none=>some (seen++[c])
def Gs(l:List G)(out:List G)(c:G):Option (List G):=if c.1≠0 then some (out++[c])else match DH c.2.2.1 l with|some n=>if c.2.2.2<n then none else some out|none=>match DH (F2 c.2.2.1) l with|some n=>if c.2.2.2+n<0 then none else some out|none=>some (out++[c])
def Ed(l:List G):Option (List G):=match l.foldlM FD []with|none=>none|some _=>l.foldlM (Gs l) []
def FW(c:G):List G→List G|[]=>[c]|d::l=>if Cd d c<0 then d::FW c l else if d=c then d::l else c::d::l
def E7(l:List G):List G:=l.foldl (λout c=>FW c out) []
def A0(p:List G):List G×Bool×Int:=if(p.map BD).any λr=>decide (r.2<0)then([],true,0)else let l:=((p.map BD).filter λr=>decide (r.2=0)).map (·.1);match(Ec (Dl l)).bind Ed with|none=>([],true,0)|some out=>if l.any (λc=>!AG c)||decide (96<(E7 out).length)then([],false,3)else(E7 out,false,0)
abbrev AP.fn(x:List G×Unit):List G×Bool×Int:=A0 x.1
abbrev AP.pre(x:List G×Unit):Prop:=Bq x.1
theorem NG:∀(u:Nat),∀b∈Lib.decDigits u,48≤b.toNat∧b.toNat≤57:=by intro u;induction u using Nat.strongRecOn with|_ u ih=>
 intro b hb;rw[Lib.decDigits]at hb;split at hb;·rename_i h;simp only[eN]at hb;subst hb;simp;omega
 ·rename_i h;rcases List.mem_append.1 hb with hb|hb;·exact ih (u/10) (by omega) b hb
  ·simp only[eN]at hb;subst hb;simp;omega
def QG(l:List UInt8):Nat:=l.foldl (λa b=>a*10+(b.toNat-48)) 0
theorem VJ(u:Nat):QG (Lib.decDigits u)=u:=by induction u using Nat.strongRecOn with|_ u ih=>
 rw[Lib.decDigits];split;·rename_i h;simp[QG];omega
 ·rename_i h;have :=ih (u/10) (by omega);unfold QG at this⊢;rw[iF,this];simp;omega
theorem RZ{u v:Nat}(h:Lib.decDigits u=Lib.decDigits v):u=v:=by rw[←VJ u,←VJ v,h]
theorem ZH(n:Int):∀b∈Lib.itoa n,b.toNat=45∨48≤b.toNat∧b.toNat≤57:=by
 intro b hb;unfold Lib.itoa at hb;split at hb
 ·rcases List.mem_cons.1 hb with rfl|hb;·exact .inl rfl
  ·exact .inr (NG _ b hb)
 ·exact .inr (NG _ b hb)
theorem ZG{n m:Int}(h:Lib.itoa n=Lib.itoa m):n=m:=by
 have key:∀u v:Nat,(45:UInt8)::Lib.decDigits u≠Lib.decDigits v:=λu v e=>by have :=NG v 45 (by rw[←e];simp);simp at this
 unfold Lib.itoa at h;split at h<;>split at h;·have :=RZ (hI h).2;omega
 ·exact absurd h (key _ _)
 ·exact absurd h.symm (key _ _)
 ·have :=RZ h;omega
theorem Lt{n m:Int}(h:Aq n=Aq m):n=m:=by refine ZG (List.map_inj_right (f:=λb:UInt8=>(b.toNat:Int)) (λa b e=>?_)|>.1 h);exact UInt8.toNat_inj.1 (Int.ofNat_inj.1 e)
theorem Hc(n:Int):∀b∈Aq n,b=45∨48≤b∧b≤57:=by intro b hb;simp only[Aq,iI]at hb;obtain⟨c,hc,rfl⟩:=hb;have :=ZH n c hc;omega
theorem Ge{n:Int}(h:-9223372036854775807≤n)(h2:n≤9223372036854775807):(Aq n).length≤21:=by simp only[Aq,fB];exact Lib.itoa_length_le n (by omega) h2
theorem KX{s:Int}:∀{a a' r r':List Int},s∉a→s∉a'→a++s::r=a'++s::r'→a=a'∧r=r'|[],[],r,r',_,_,h=>⟨rfl,(hI h).2⟩|[],x::a',r,r',_,h2,h=>by have :=(hI h).1;exact absurd (by rw[this];simp) h2|x::a,[],r,r',h1,_,h=>by have :=(hI h).1;exact absurd (by rw[←this];simp) h1|x::a,y::a',r,r',h1,h2,h=>by obtain⟨e,h⟩:=hI h;simp only[eA,fJ]at h1 h2;obtain⟨e1,e2⟩:=KX h1.2 h2.2 h;exact⟨by rw[e,e1],e2⟩
theorem MC(n:Int):(44:Int)∉Aq n:=λh=>by have :=Hc n _ h;omega
theorem KA(n:Int)(l:List Int)(s:Int):A3 (n::l) s=Aq (s*n)++44::A3 l s:=by simp[A3]
theorem O0:∀{l l':List Int}{s s':Int}{r r':List Int},(44:Int)∉r→(44:Int)∉r'→A3 l s++r=A3 l' s'++r'→l.map (s*·)=l'.map (s'*·)∧r=r'|[],[],s,s',r,r',_,_,h=>⟨rfl,h⟩|[],n::l',s,s',r,r',h1,_,h=>by rw[KA]at h;exact absurd (by rw[show r=_ from h];simp) h1|n::l,[],s,s',r,r',_,h2,h=>by rw[KA]at h;exact absurd (by rw[show r'=_ from h.symm];simp) h2|n::l,m::l',s,s',r,r',h1,h2,h=>by rw[KA,KA,gA,gA,gE,gE]at h;obtain⟨e1,e2⟩:=KX (MC _) (MC _) h;obtain⟨e3,e4⟩:=O0 h1 h2 e2;exact⟨by rw[fK,fK,Lt e1,e3],e4⟩
theorem Lv(l:List Int)(s:Int):∀b∈A3 l s,44≤b∧b≤57:=by
 intro b hb;simp only[A3,mH,fC,eN]at hb;obtain⟨n,_,hb|rfl⟩:=hb;·have :=Hc _ b hb;omega
 ·omega
theorem Qy:∀{l l':List Int},(∀b∈l,0≤b∧b≤255)→(∀b∈l',0≤b∧b≤255)→l.map (λn=>UInt8.ofNat n.toNat)=l'.map (λn=>UInt8.ofNat n.toNat)→l=l'
 |[],[],_,_,_=>rfl|[],_::_,_,_,h=>by simp at h|_::_,[],_,_,h=>by simp at h|a::l,b::l',h1,h2,h=>by
  simp only[fK,hE]at h;have h3:=h1 a (by simp);have h4:=h2 b (by simp);have e:=eR UInt8.toNat h.1;simp at e;have :a=b:=by omega
  rw[this,Qy (λc hc=>h1 c (by simp[hc])) (λc hc=>h2 c (by simp[hc])) h.2]
theorem U4{l l':List Int}(h1:∀b∈l,0≤b∧b≤255)(h2:∀b∈l',0≤b∧b≤255)(h:BM l=BM l'):l=l':=by refine Qy h1 h2 ?_;have :=eR (λx:ByteArray=>x.data.toList) h;simpa[BM]using this
theorem bC{l:List Int}(h:∀b∈l,0≤b∧b≤255):Fa (BM l)=l:=by
 simp only[Fa,BM,List.map_map];conv=>rhs;rw[←List.map_id l]
 refine iS λb hb=>?_;have :=h b hb;simp;omega
theorem KG(l:List Int):l.map ((1:Int)*·)=l:=by
 conv=>rhs;rw[←List.map_id l]
 exact iS λn _=>by simp
theorem ZR(l:List Int):l.map ((-1:Int)*·)=F2 l:=iS λn _=>by omega
theorem Tl{C C':List Int}{s s':Int}:BM (A3 C s)=BM (A3 C' s')↔C.map (s*·)=C'.map (s'*·):=by
 have hb:∀(l:List Int)(s:Int),∀b∈A3 l s,0≤b∧b≤255:=λl s b hb=>by have :=Lv l s b hb;omega
 constructor;·intro h;have :=U4 (hb _ _) (hb _ _) h;exact(O0 (r:=[]) (r':=[]) (by simp) (by simp) (by simpa using this)).1
 ·intro h;have :∀(l:List Int)(s:Int),A3 l s=(l.map (s*·)).flatMap λn=>Aq n++[44]:=λl s=>by simp[A3,List.flatMap_map]
  rw[this,this,h]
theorem O1{C C':List Int}:BM (A3 C 1)=BM (A3 C' 1)↔C=C':=by rw[Tl,KG,KG]
theorem Tm{C C':List Int}:BM (A3 C (-1))=BM (A3 C' 1)↔F2 C=C':=by rw[Tl,KG,ZR]
theorem KI(c:G)(p:List G):Bn (c::p)=Aq c.1++58::(Aq c.2.1++58::( A3 c.2.2.1 1++Aq c.2.2.2++59::Bn p)):=by simp[Bn]
theorem UJ:∀{p q:List G},Bn p=Bn q→p=q
 |[],[],_=>rfl|[],c::q,h=>by rw[KI]at h;simp[Bn]at h|c::p,[],h=>by rw[KI]at h;simp[Bn]at h|c::p,d::q,h=>by
  rw[KI,KI]at h;have n58:∀n,(58:Int)∉Aq n:=λn h=>by have :=Hc n _ h;omega
  have n59:∀C K,(59:Int)∉A3 C 1++Aq K:=λC K h=>by
   rcases List.mem_append.1 h with h|h;·have :=Lv _ _ _ h;omega
   ·have :=Hc _ _ h;omega
  obtain⟨e1,h⟩:=KX (n58 _) (n58 _) h;obtain⟨e2,h⟩:=KX (n58 _) (n58 _) h;obtain⟨e3,h⟩:=KX (n59 _ _) (n59 _ _) h;obtain⟨e4,e5⟩:=O0 (MC _) (MC _) e3;rw[KG,KG]at e4;have ih:=UJ h;rw[ih,kI (Lt e1) (kI (Lt e2) (kI e4 (Lt e5)))]
theorem UL(p:List G):∀b∈Bn p,0≤b∧b≤255:=by
 intro b hb;simp only[Bn,mH,fC,eN]at hb;obtain⟨c,_,hb⟩:=hb;rcases hb with(((((hb|rfl)|hb)|rfl)|hb)|hb)|rfl;·have :=Hc _ _ hb;omega
 ·omega
 ·have :=Hc _ _ hb;omega
 ·omega
 ·have :=Lv _ _ _ hb;omega
 ·have :=Hc _ _ hb;omega
 ·omega
theorem Za{p q:List G}:BM (Bn p)=BM (Bn q)↔p=q:=⟨λh=>UJ (U4 (UL p) (UL q) h),λh=>by rw[h]⟩
def BB.wp(x0:List Int)(x1:Int)(Q:ByteArray→Prop):Prop:=let v2:=List.length [(44:Int)];Lp (σ:=Int×List Int) (λy3 R3=>let v0:=x0.getD y3.1.toNat 0;let v1:=List.length (y3.2++Aq (x1*v0));cond (decide (y3.1<x0.length)) ((0≤y3.1∧y3.1<x0.length)∧AD .i64 (x1*v0)∧H3 (x1*v0) y3.2∧((v1+v2)*1≤140737488355328∧v1+v2≤9223372036854775807)∧AD .i64 (y3.1+1)∧R3 ( y3.1+1,y3.2++Aq (x1*v0)++[44])) (Q (BM y3.2))) (0,([]:List Int))
def Bc.wp(x0:List G)(Q:ByteArray→Prop):Prop:=let v2:=List.length [(58:Int)];let v8:=List.length [(59:Int)];Lp (σ:=Int×List Int) (λy2 R2=>let v0:=x0.getD y2.1.toNat Z;let v1:=List.length (y2.2++Aq v0.1);let v3:=List.length ( y2.2++Aq v0.1++[58]++Aq v0.2.1);let v4:=List.length ( y2.2++Aq v0.1++[58]++Aq v0.2.1++[58]);let v5:=BB.fn (v0.2.2.1,(1,()));let v6:=List.length (Fa v5);let v7:=List.length ( y2.2++Aq v0.1++[58]++Aq v0.2.1++[58]++Fa v5++Aq v0.2.2.2);cond (decide (y2.1<x0.length)) ((0≤y2.1∧y2.1<x0.length)∧H3 v0.1 y2.2∧((v1+v2)*1≤140737488355328∧v1+v2≤9223372036854775807)∧H3 v0.2.1 ( y2.2++Aq v0.1++[58])∧((v3+v2)*1≤140737488355328∧v3+v2≤9223372036854775807)∧BB.pre (v0.2.2.1,(1,()))∧((v4+v6)*1≤140737488355328∧v4+v6≤9223372036854775807)∧H3 v0.2.2.2 ( y2.2++Aq v0.1++[58]++Aq v0.2.1++[58]++Fa v5)∧((v7+v8)*1≤140737488355328∧v7+v8≤9223372036854775807)∧AD .i64 (y2.1+1)∧R2 ( y2.1+1,y2.2++Aq v0.1++[58]++Aq v0.2.1++[58]++Fa v5++Aq v0.2.2.2++[59])) (Q (BM y2.2))) (0,([]:List Int))
def CM.wp(x0:List G)(Q:List G→Prop):Prop:=Lp (σ:=Int×List G×(ByteArray→Option Int)) (λy2 R2=>let v0:=x0.getD y2.1.toNat Z;let v1:=BB.fn (v0.2.2.1,(1,()));let v3:=Option.getD (y2.2.2 v1) 0;let v4:=y2.2.1.getD v3.toNat Z;cond (decide (y2.1<x0.length)) ((0≤y2.1∧y2.1<x0.length)∧cond (v0.1 !=0) (((y2.2.1.length+List.length [v0])*48≤140737488355328∧y2.2.1.length+List.length [v0]≤9223372036854775807)∧AD .i64 (y2.1+1)∧R2 ( y2.1+1,( y2.2.1++[v0],y2.2.2))) (BB.pre (v0.2.2.1,(1,()))∧cond (Option.isSome (y2.2.2 v1)) ((0≤v3∧v3<y2.2.1.length)∧Int.toNat v3<y2.2.1.length∧(0≤v3∧v3<y2.2.1.length)∧Int.toNat v3<y2.2.1.length∧AD .i64 (y2.1+1)∧R2 ( y2.1+1,( List.set y2.2.1 v3.toNat (v4.1,(v4.2.1,(v4.2.2.1,Min.min v4.2.2.2 v0.2.2.2))),y2.2.2))) (((y2.2.1.length+List.length [v0])*48≤140737488355328∧y2.2.1.length+List.length [v0]≤9223372036854775807)∧AD .i64 (y2.1+1)∧R2 ( y2.1+1,( y2.2.1++[v0],Bm y2.2.2 v1 y2.2.1.length))))) (Q y2.2.1)) (0,(([]:List G),λ(a2:ByteArray)=>(none:Option Int)))
def B9.wp(x0:List G)(Q:List G×Bool→Prop):Prop:=Lp (σ:=Int×(ByteArray→Option Int)) (λy2 R2=>let v0:=x0.getD y2.1.toNat Z;cond (decide (y2.1<x0.length)) ((0≤y2.1∧y2.1<x0.length)∧cond (v0.1==0) (BB.pre (v0.2.2.1,(1,()))∧AD .i64 (y2.1+1)∧R2 ( y2.1+1,Bm y2.2 (BB.fn (v0.2.2.1,(1,()))) y2.1)) (AD .i64 (y2.1+1)∧R2 ( y2.1+1,y2.2))) (Lp (σ:=Int×List G×(Int→Option Bool)) (λy4 R4=>let v3:=x0.getD y4.1.toNat Z;let v4:=BB.fn (v3.2.2.1,(-1,()));let v6:=Option.getD (y2.2 v4) 0;let v7:=x0.getD v6.toNat Z;let v8:=As.fn ((1,(0,v3.2.2)),());cond (decide (y4.1<x0.length)) ((0≤y4.1∧y4.1<x0.length)∧cond (Option.getD (y4.2.2 y4.1) false) (AD .i64 (y4.1+1)∧R4 ( y4.1+1,y4.2)) (BB.pre (v3.2.2.1,(-1,()))∧((! v3.1 !=0)=true→(! v3.1 !=0)=true∧True)∧((v3.1 !=0)=false→! v3.1 !=0=true)∧cond ( v3.1 !=0||! Option.isSome (y2.2 v4)) (((y4.2.1.length+List.length [v3])*48≤140737488355328∧y4.2.1.length+List.length [v3]≤9223372036854775807)∧AD .i64 (y4.1+1)∧R4 ( y4.1+1,( y4.2.1++[v3],y4.2.2))) ((0≤v6∧v6<x0.length)∧AD .i64 (v3.2.2.2+v7.2.2.2)∧cond (decide ( v3.2.2.2+v7.2.2.2<0)) (Q (([]:List G),true)) (cond ( v3.2.2.2+v7.2.2.2==0) (As.pre ((1,(0,v3.2.2)),())∧((y4.2.1.length+List.length [v8.1])*48≤140737488355328∧y4.2.1.length+List.length [v8.1]≤9223372036854775807)∧AD .i64 (y4.1+1)∧R4 ( y4.1+1,( y4.2.1++[v8.1],Bm y4.2.2 v6 true))) (((y4.2.1.length+List.length [v3])*48≤140737488355328∧y4.2.1.length+List.length [v3]≤9223372036854775807)∧AD .i64 (y4.1+1)∧R4 ( y4.1+1,( y4.2.1++[v3],y4.2.2))))))) (Q (y4.2.1,false))) (0,(([]:List G),λ(a4:Int)=>(none:Option Bool))))) (0,λ(a2:ByteArray)=>(none:Option Int))
def AP.wp(x0:List G)(Q:List G×Bool×Int→Prop):Prop:=Lp (σ:=Int×List G) (λy2 R2=>let v0:=x0.getD y2.1.toNat Z;let v1:=[(((As.fn (v0,())).1).1,((((As.fn (v0,())).1).2).1,(((As.fn (v0,())).1).2).2))];let v2:=B9.fn (CM.fn (y2.2,()),());let v14:=CN.fn (y2.2,((λ(a9:G)=>True,λ(a9:G)=>Da.fn (a9,())),()));let v28:=CN.fn (y2.2,((λ(a13:G)=>True,λ(a13:G)=>Da.fn (a13,())),()));let v31:=CN.fn (y2.2,((λ(a11:G)=>True,λ(a11:G)=>Da.fn (a11,())),()));cond (decide (y2.1<x0.length)) ((0≤y2.1∧y2.1<x0.length)∧As.pre (v0,())∧cond (decide ((As.fn (v0,())).2<0)) (Q (([]:List G),(true,0))) (cond ((As.fn (v0,())).2==0) (((y2.2.length+v1.length)*48≤140737488355328∧y2.2.length+v1.length≤9223372036854775807)∧AD .i64 (y2.1+1)∧R2 ( y2.1+1,y2.2++v1)) (AD .i64 (y2.1+1)∧R2 ( y2.1+1,y2.2)))) (CN.pre (y2.2,((λ(a4:G)=>True,λ(a4:G)=>Da.fn (a4,())),()))∧CM.pre (y2.2,())∧B9.pre (CM.fn (y2.2,()),())∧cond v2.2 (Q (([]:List G),(true,0))) (Lp (σ:=Int×(ByteArray→Option Int)) (λy4 R4=>let v3:=v2.1.getD y4.1.toNat Z;let v4:=BB.fn (v3.2.2.1,(1,()));let v5:=Option.isSome (y4.2 v4);cond (decide (y4.1<v2.1.length)) ((0≤y4.1∧y4.1<v2.1.length)∧cond (v3.1 !=1) (AD .i64 (y4.1+1)∧R4 ( y4.1+1,y4.2)) (BB.pre (v3.2.2.1,(1,()))∧(v5=true→v5=true∧True)∧(v5=true→v5=true∧True)∧(v5=true→v5=true∧v5=true∧True)∧(v5=true→v5=true)∧cond (v5&&Option.getD (y4.2 v4) 0 !=v3.2.2.2) (Q (([]:List G),(true,0))) (AD .i64 (y4.1+1)∧R4 ( y4.1+1,Bm y4.2 v4 v3.2.2.2)))) (Lp (σ:=Int×List G) (λy6 R6=>let v7:=v2.1.getD y6.1.toNat Z;let v8:=BB.fn (v7.2.2.1,(1,()));let v11:=BB.fn (v7.2.2.1,(-1,()));let v13:=Option.getD (y4.2 v11) 0;cond (decide (y6.1<v2.1.length)) ((0≤y6.1∧y6.1<v2.1.length)∧cond (v7.1==0) (BB.pre (v7.2.2.1,(1,()))∧cond (Option.isSome (y4.2 v8)) (cond (decide (v7.2.2.2<Option.getD (y4.2 v8) 0)) (Q (([]:List G),(true,0))) (AD .i64 (y6.1+1)∧R6 ( y6.1+1,y6.2))) (BB.pre (v7.2.2.1,(-1,()))∧cond (Option.isSome (y4.2 v11)) (AD .i64 (v7.2.2.2+v13)∧cond (decide ( v7.2.2.2+v13<0)) (Q (([]:List G),(true,0))) (AD .i64 (y6.1+1)∧R6 ( y6.1+1,y6.2))) (((y6.2.length+List.length [v7])*48≤140737488355328∧y6.2.length+List.length [v7]≤9223372036854775807)∧AD .i64 (y6.1+1)∧R6 ( y6.1+1,y6.2++[v7])))) (((y6.2.length+List.length [v7])*48≤140737488355328∧y6.2.length+List.length [v7]≤9223372036854775807)∧AD .i64 (y6.1+1)∧R6 ( y6.1+1,y6.2++[v7]))) (P2 (λ(a8:G)=>λ(a9:G)=>Bl.pre (a8,(a9,()))) y6.2∧∀b8:List G,List.Perm y6.2 b8∧Iu (λ(a9:G)=>λ(a10:G)=>Bl.fn (a9,(a10,()))) b8→cond (decide ((b8.length:Int)<2)) (((!v14)=true→(!v14)=true∧True)∧((!v14)=true→(!v14)=true∧True)∧(v14=false→(!v14)=true)∧cond (v14||decide (96<(b8.length:Int))) (Q (([]:List G),(false,3))) (Q (b8,(false,0)))) (Lp (λy9 R9=>let v15:=Int.toNat (y9-1);let v16:=b8.getD y9.toNat Z;let v17:=b8.getD v15 Z;cond (decide (y9<b8.length)) ((0≤y9∧y9<b8.length)∧Int.toNat y9<b8.length∧AD .i64 (y9-1)∧(0≤y9-1∧y9-1<b8.length)∧v15<b8.length∧By.pre (v16,(v17,()))∧cond (By.fn (v16,(v17,()))) ((0≤y9∧y9≤b8.length)∧Lp (σ:=Int×Int×List G) (λy11 R11=>let v19:=Int.toNat (y11.1-1);let v20:=y11.2.2.getD ( 0+Int.toNat y9+Int.toNat y11.1) Z;let v21:=y11.2.2.getD ( 0+Int.toNat y9+v19) Z;let v24:=List.take (0+Int.toNat y11.2.1) y11.2.2;let v25:=List.replicate (y11.2.2.length-Int.toNat y11.2.1) Z;let v26:=List.drop ( 0+Int.toNat y11.2.1+(y11.2.2.length-Int.toNat y11.2.1)) y11.2.2;let v27:=List.length ( v24++v25++v26);let v30:=List.take y11.2.1.toNat (List.drop 0 ( v24++v25++v26));cond (decide (y11.1<(( b8.length-Int.toNat y9:Nat):Int))) ((0≤y11.1∧y11.1<(( b8.length-Int.toNat y9:Nat):Int)∧0+Int.toNat y9+(b8.length-Int.toNat y9)≤y11.2.2.length)∧0+Int.toNat y9+Int.toNat y11.1<y11.2.2.length∧AD .i64 (y11.1-1)∧(0≤y11.1-1∧y11.1-1<(( b8.length-Int.toNat y9:Nat):Int)∧0+Int.toNat y9+(b8.length-Int.toNat y9)≤y11.2.2.length)∧0+Int.toNat y9+v19<y11.2.2.length∧By.pre (v20,(v21,()))∧cond (! By.fn (v20,(v21,()))) ((0≤y11.1∧y11.1<(( b8.length-Int.toNat y9:Nat):Int)∧0+Int.toNat y9+(b8.length-Int.toNat y9)≤y11.2.2.length)∧0+Int.toNat y9+Int.toNat y11.1<y11.2.2.length∧(0≤y11.2.1∧y11.2.1<y11.2.2.length)∧Int.toNat y11.2.1<y11.2.2.length∧AD .i64 (y11.2.1+1)∧AD .i64 (y11.1+1)∧R11 ( y11.1+1,( y11.2.1+1,List.set y11.2.2 y11.2.1.toNat v20))) (AD .i64 (y11.1+1)∧R11 ( y11.1+1,y11.2))) ((0≤y11.2.1∧y11.2.1≤y11.2.2.length)∧0+Int.toNat y11.2.1+(y11.2.2.length-Int.toNat y11.2.1)≤y11.2.2.length∧(0≤y11.2.1∧y11.2.1≤((v27:Nat):Int))∧0+Int.toNat y11.2.1≤v27∧((!v28)=true→(!v28)=true∧True)∧((!v28)=true→(!v28)=true∧True)∧(v28=false→(!v28)=true)∧cond (v28||decide (96<(v30.length:Int))) (Q (([]:List G),(false,3))) (Q (v30,(false,0))))) (1,(y9,b8))) (AD .i64 (y9+1)∧R9 (y9+1))) (((!v31)=true→(!v31)=true∧True)∧((!v31)=true→(!v31)=true∧True)∧(v31=false→(!v31)=true)∧cond (v31||decide (96<(b8.length:Int))) (Q (([]:List G),(false,3))) (Q (b8,(false,0))))) 1))) (0,([]:List G)))) (0,λ(a4:ByteArray)=>(none:Option Int))))) (0,([]:List G))
theorem V7(l:List Int)(s:Int):∀b∈A3 l s,0≤b∧b≤255:=λb hb=>by have :=Lv l s b hb;omega
theorem bB(l:List Int)(s:Int):Fa (BM (A3 l s))=A3 l s:=bC (V7 l s)
theorem ZI(l:List Int)(n s:Int):A3 (l++[n]) s=A3 l s++Aq (s*n)++[44]:=by simp[A3]
theorem ZZ(p:List G)(c:G):Bn (p++[c])=Bn p++Aq c.1++[58]++Aq c.2.1++[58]++A3 c.2.2.1 1++Aq c.2.2.2++[59]:=by simp[Bn]
theorem Lu{s:Int}(hs:s=1∨s=-1):∀{l:List Int},DO l→(A3 l s).length≤22*l.length
 |[],_=>by simp[A3]|n::l,h=>by
  rw[KA];have h1:=Lu hs (l:=l) λm hm=>h m (by simp[hm]);have h2:=h n (by simp);have h3:(Aq (s*n)).length≤21:=by rcases hs with rfl|rfl<;>exact Ge (by omega) (by omega)
  simp only[dW,dX];omega
theorem UK:∀{p:List G},(∀c∈p,c.2.2.1.length≤4096∧DO c.2.2.1∧DO [c.1,c.2.1,c.2.2.2])→(Bn p).length≤90200*p.length|[],_=>by simp[Bn]|c::p,h=>by rw[KI];have h1:=UK (p:=p) λm hm=>h m (by simp[hm]);obtain⟨h2,h3,h4⟩:=h c (by simp);have h5:=Lu (.inl rfl) h3;have a1:=Ge (h4 c.1 (by simp)).1 (h4 c.1 (by simp)).2;have a2:=Ge (h4 c.2.1 (by simp)).1 (h4 c.2.1 (by simp)).2;have a3:=Ge (h4 c.2.2.2 (by simp)).1 (h4 c.2.2.2 (by simp)).2;simp only[dW,dX];omega
theorem ZB{l:List Int}(i:Nat)(h:DO l):DO (l.take i):=λn hn=>h n (fX hn)
theorem BB.spec(l:List Int)(s:Int)(hp:BB.pre (l,s,())):BB.wp l s λr=>r=BB.fn (l,s,()):=by
 obtain⟨hl,hi,hs⟩:=hp;simp only at hl hi hs;have hfn:BB.fn (l,s,())=BM (A3 l s):=rfl;simp only[BB.wp,hfn];refine Lp.iter l.length (λi y=>y=((i:Int),A3 (l.take i) s)) (by simp[A3]) ?_;rintro i y hle rfl R hR;by_cases e:i<l.length
 ·have hk:=Lu hs (ZB i hi);have hn:=hi _ (BQ (d:=0) e);have AM:(l.take i).length≤1048576:=by simp;omega
  have h3:(Aq (s*l.getD i 0)).length≤21:=by rcases hs with rfl|rfl<;>exact Ge (by omega) (by omega)
  have hf:AD .i64 (s*l.getD i 0):=by show-9223372036854775808≤s*l.getD i 0∧s*l.getD i 0≤9223372036854775807;rcases hs with rfl|rfl<;>omega
  simp only[dL (show(i:Int)<(l.length:Int)by omega),dP,dV];refine⟨⟨by omega,by omega⟩,hf,⟨hf,by omega⟩,⟨?_,?_⟩,⟨by omega,by omega⟩,hR e _ ?_⟩;·simp only[dW,dX,eC];omega
  ·simp only[dW,dX,eC];omega
  ·rw[DE 0 e,ZI];rfl
 ·have :i=l.length:=by omega
  subst this;simp only[eB,eK,dN,eD]
theorem Bc.spec(p:List G)(hp:Bc.pre (p,())):Bc.wp p λr=>r=Bc.fn (p,()):=by
 obtain⟨hl,hi⟩:=hp;simp only at hl hi;have hfn:Bc.fn (p,())=BM (Bn p):=rfl;simp only[Bc.wp,hfn,BB.fn,bB];refine Lp.iter p.length (λi y=>y=((i:Int),Bn (p.take i))) (by simp[Bn]) ?_;rintro i y hle rfl R hR;by_cases e:i<p.length
 ·have hk:=UK (p:=p.take i) λc hc=>hi c (fX hc);obtain⟨h2,h3,h4⟩:=hi _ (BQ (d:=Z) e);have h5:=Lu (.inl rfl) h3;have b1:=h4 (p.getD i Z).1 (by simp);have b2:=h4 (p.getD i Z).2.1 (by simp);have b3:=h4 (p.getD i Z).2.2.2 (by simp);have a1:=Ge b1.1 b1.2;have a2:=Ge b2.1 b2.2;have a3:=Ge b3.1 b3.2;have AM:(p.take i).length≤1048576:=by simp;omega
  have hf:∀n:Int,-9223372036854775807≤n∧n≤9223372036854775807→AD .i64 n:=λn h=>⟨by omega,h.2⟩;simp only[dL (show(i:Int)<(p.length:Int)by omega),dP,dV];generalize hc:p.getD i Z=c at*;generalize hA:Bn (p.take i)=A at*;have g1:(A++Aq c.1).length≤A.length+21:=by simp only[dW];omega
  refine⟨⟨by omega,by omega⟩,⟨hf _ b1,by omega⟩,⟨?_,?_⟩,⟨hf _ b2,?_⟩,⟨?_,?_⟩,⟨(by omega:c.2.2.1.length≤1048576),h3,.inl rfl⟩,⟨?_,?_⟩,⟨hf _ b3,?_⟩,⟨?_,?_⟩,⟨by omega,by omega⟩,hR e _ ?_⟩;any_goals(simp only[dW,dX,eC];omega)
  rw[DE Z e,ZZ,hA,hc];rfl
 ·have :i=p.length:=by omega
  subst this;simp only[eB,eK,dN,eD]
theorem Y1{C:List Int}{out:List G}{c:G}(h:c.1≠0):Dk C (out++[c])=Dk C out:=by simp only[Dk,lE];simp[h]
theorem Y3{C:List Int}{out:List G}{c:G}(h:c.1=0):Dk C (out++[c])=(Dk C out).or (if C=c.2.2.1 then some out.length else none):=by
 simp only[Dk,lE];by_cases h2:C=c.2.2.1;·simp[h,h2]
 ·rw[dK h2];simp[h,show¬c.2.2.1=C from λe=>h2 e.symm]
theorem TY(C:List Int)(out:List G):Dk C out=(out.map λd=>(d.1,d.2.2.1)).findIdx? λd=>decide (d.1=0∧d.2=C):=by simp only[Dk,List.findIdx?_map];rfl
theorem Y2{C:List Int}{out:List G}{i:Nat}{x:G}(h:x.1=(out.getD i Z).1)(h2:x.2.2.1=(out.getD i Z).2.2.1):Dk C (out.set i x)=Dk C out:=by
 by_cases e:i<out.length
 ·rw[TY,TY,List.map_set,h,h2,B2 e];congr 1;have :((out[i].1,out[i].2.2.1):Int×List Int)=(out.map λd=>(d.1,d.2.2.1))[i]'(by simpa using e):=by simp
  rw[this,List.set_getElem_self]
 ·rw[List.set_eq_of_length_le (by omega)]
theorem TZ{C:List Int}{out:List G}{i:Nat}(h:Dk C out=some i):∃hi:i<out.length,out[i].1=0∧out[i].2.2.1=C:=by obtain⟨hi,h1,_⟩:=List.findIdx?_eq_some_iff_getElem.1 h;exact⟨hi,by simpa using h1⟩
theorem ZM(out:List G)(c:G):(EK out c).length≤out.length+1:=by
 unfold EK;split;·simp
 ·split<;>simp
theorem O6:∀(l out:List G),(l.foldl EK out).length≤out.length+l.length|[],out=>by simp|c::l,out=>by have :=O6 l (EK out c);have :=ZM out c;simp only[gC,dX];omega
def Vk(out:List G)(m:ByteArray→Option Int):Prop:=∀C,m (BM (A3 C 1))=(Dk C out).map λ(i:Nat)=>(i:Int)
theorem CM.spec(l:List G)(hp:CM.pre (l,())):CM.wp l λr=>r=CM.fn (l,()):=by
 obtain⟨hl,hi⟩:=hp;simp only at hl hi;have hfn:CM.fn (l,())=Dl l:=rfl;simp only[CM.wp,hfn,BB.fn];refine Lp.iter l.length (λi y=>y.1=(i:Int)∧y.2.1=Dl (l.take i)∧Vk y.2.1 y.2.2) ⟨rfl,by simp[Dl],λC=>by simp[Dk]⟩ ?_;rintro i⟨y,out,m⟩hle⟨hy,ho,hm⟩R hR;simp only at hy ho hm;subst hy;by_cases e:i<l.length
 ·have hlen:=O6 (l.take i) [];have AM:(l.take i).length≤1048576:=by simp;omega
  rw[show(l.take i).foldl EK []=out from ho.symm]at hlen;simp only[eC]at hlen;have BN:Dl (l.take (i+1))=EK out (l.getD i Z):=by rw[DE Z e,Dl,iF,ho];rfl
  obtain⟨FH,FJ⟩:=hi _ (BQ (d:=Z) e);simp only[dL (show(i:Int)<(l.length:Int)by omega),dP,dV];generalize l.getD i Z=c at*;refine⟨⟨by omega,by omega⟩,?_⟩;by_cases hk:c.1=0;·rw[hk];simp only[eI,dN];refine⟨⟨FH,FJ,.inl rfl⟩,?_⟩;have Li:=hm c.2.2.1;cases hg:Dk c.2.2.1 out with
   |none=>
    rw[hg]at Li;simp only[Li,mR,gY,dN];refine⟨⟨by simp;omega,by simp;omega⟩,⟨by omega,by omega⟩,hR e _ ⟨by simp,?_,?_⟩⟩;·simp only[BN,EK,hk,hg];rfl
    ·intro C;simp only[Bm,O1];rw[Y3 hk];by_cases hC:C=c.2.2.1;·rw[dO hC,dO hC,hC,hg];rfl
     ·rw[dK hC,dK hC,hm C];simp|some j=>
    rw[hg]at Li;obtain⟨hj,h1,h2⟩:=TZ hg;simp only[Li,kP,iE,dV,hY,dP];have cU:=B2 (d:=Z) hj;refine⟨⟨by omega,by omega⟩,hj,⟨by omega,by omega⟩,hj,⟨by omega,by omega⟩,hR e _ ⟨by simp,?_,?_⟩⟩;·simp only[BN,EK,hk,hg];rfl
    ·intro C;exact(hm C).trans (eR _ (Y2 (C:=C) (out:=out) (i:=j) (x:=Hg (out.getD j Z) c.2.2.2) rfl rfl).symm)
  ·rw[bne_iff_ne.2 hk];simp only[dV];refine⟨⟨by simp;omega,by simp;omega⟩,⟨by omega,by omega⟩,hR e _ ⟨by simp,?_,?_⟩⟩;·simp only[BN,EK,dO hk]
   ·intro C;exact(hm C).trans (eR _ (Y1 hk).symm)
 ·have :i=l.length:=by omega
  subst this;simp only[eB,eK,dN,ho,eD]
theorem O3(C:List Int)(c:G):∀(l:List G)(k:Nat),EZ C (l++[c]) k=if c.1=0∧c.2.2.1=C then some (k+l.length)else EZ C l k
 |[],k=>by simp only[hG,EZ,eC,fZ]|d::l,k=>by
  simp only[gE,EZ,O3 C c l (k+1),dX];by_cases h:c.1=0∧c.2.2.1=C;·simp only[dO h];congr 1;omega
  ·simp only[dK h]
theorem Tr{C:List Int}:∀{l:List G}{k j:Nat},EZ C l k=some j→k≤j∧∃h:j-k<l.length,l[j-k].1=0∧l[j-k].2.2.1=C|[],k,j,h=>by cases h|d::l,k,j,h=>by simp only[EZ]at h;cases h1:EZ C l (k+1)with
 |some i=>
  rw[h1]at h;cases h;obtain⟨h2,h3,h4⟩:=Tr h1;have e:j-k=j-(k+1)+1:=by omega
  refine⟨by omega,by simp;omega,?_⟩;simp only[e,List.getElem_cons_succ];exact h4|none=>
  rw[h1]at h;simp only at h;split at h;·rename_i h2;cases h;refine⟨dT _,by simp,?_⟩;simp only[lR,List.getElem_cons_zero];exact h2
  ·cases h
theorem Zm{l:List G}{st st':List G×(Int→Option Bool)}{ic:Nat×G}(h:FZ l st ic=some st'):st'.1.length≤st.1.length+1:=by
 unfold FZ at h;split at h;·cases h;omega
 ·split at h;·cases h;simp
  ·split at h;·cases h
   ·split at h<;>(cases h;simp)
theorem Pa{l:List G}:∀{m:List (Nat×G)}{st st':List G×(Int→Option Bool)},m.foldlM (FZ l) st=some st'→st'.1.length≤st.1.length+m.length|[],st,st',h=>by cases h;simp|x::m,st,st',h=>by simp only[fF,fA,eV]at h;obtain⟨s,h1,h2⟩:=h;have :=Zm h1;have :=Pa h2;simp only[dX];omega
theorem I0(l:List G):(GD l).length=l.length:=by simp[GD]
theorem bQ{l:List G}{i:Nat}(h:i<l.length):(GD l).getD i (0,Z)=(i,l.getD i Z):=by rw[B2 (by rw[I0];exact h)];simp[GD]
theorem Ih{l:BH}(h:linB l):DO l.1:=λn hn=>by have :=h.2.1 n hn;unfold Bb at this;omega
theorem B9.spec(l:List G)(hp:B9.pre (l,())):B9.wp l λr=>r=B9.fn (l,()):=by
 obtain⟨hl,hi⟩:=hp;simp only at hl hi;simp only[B9.wp,BB.fn];refine Lp.iter l.length (λi y=>y.1=(i:Int)∧∀C,y.2 (BM (A3 C 1))=(EZ C (l.take i) 0).map λ(i:Nat)=>(i:Int)) ⟨rfl,λC=>rfl⟩ ?_;rintro i⟨y,m⟩hle⟨hy,hm⟩R hR;simp only at hy hm;subst hy;by_cases e:i<l.length
 ·obtain⟨HT,hb⟩:=hi _ (BQ (d:=Z) e);simp only[dL (show(i:Int)<(l.length:Int)by omega),dP,dV];refine⟨⟨by omega,by omega⟩,?_⟩;have EX:=DE Z e;generalize l.getD i Z=c at*;by_cases hk:c.1=0
  ·simp only[hk,hZ,dV];refine⟨⟨hb.1,Ih hb,.inl rfl⟩,⟨by omega,by omega⟩,hR e _ ⟨rfl,λC=>?_⟩⟩;rw[EX,O3];simp only[Bm,O1];by_cases hC:C=c.2.2.1;·rw[dO hC,dO ⟨hk,hC.symm⟩];simp;omega
   ·rw[dK hC,dK λh=>hC h.2.symm];exact hm C
  ·rw[beq_eq_false_iff_ne.2 hk];simp only[dN];refine⟨⟨by omega,by omega⟩,hR e _ ⟨rfl,λC=>?_⟩⟩;rw[EX,O3,dK λh=>hk h.1];exact hm C
 clear hR;have OR:i=l.length:=by omega
 subst OR;simp only[eB,eK,dN];rw[eD]at hm;have hfn:B9.fn (l,())=(match((GD l).foldlM (FZ l) ([],λ_=>none)).map (·.1)with|none=>([],true)|some out=>(out,false)):=rfl;refine Lp.foldO (GD l) (0,Z) (FZ l) ([],λ_=>none) (by rw[I0];omega) ?_ ?_
 ·rintro i⟨out,gone⟩R e _ hf ht A9 Bk;rw[I0]at e;rw[bQ e]at A9 Bk;have hlen:=Pa ht;simp only[eC,eM,I0]at hlen;obtain⟨HT,hb⟩:=hi _ (BQ (d:=Z) e);simp only[dL (show(i:Int)<(l.length:Int)by omega),dP,dV];refine⟨⟨by omega,by omega⟩,?_⟩;have hat:∀j,j<l.length→l.getD j Z∈l:=λj hj=>BQ hj;simp only[FZ]at A9 Bk;by_cases hg:(gone (i:Int)).getD false=true;·simp only[hg,dV,hP]at A9⊢;exact⟨hf,A9 _ rfl⟩
  rw[jD]at hg;simp only[hg,dN,eW,gK]at A9 Bk⊢;refine⟨⟨hb.1,Ih hb,.inr rfl⟩,λh=>⟨h,trivial⟩,λh=>by rw[h];rfl,?_⟩;have hw:m (BM (A3 (l.getD i Z).2.2.1 (-1)))=(EZ (F2 (l.getD i Z).2.2.1) l 0).map λ(i:Nat)=>(i:Int):=by rw[←hm,Tm.2 rfl]
  simp only[hw];by_cases hk:(l.getD i Z).1=0;·simp only[hk,eI,jY,ne_eq,kB,gK]at A9 Bk⊢;cases hj:EZ (F2 (l.getD i Z).2.2.1) l 0 with|none=>rw[hj]at A9;simp only[mR,gY,kW,dV];exact⟨⟨by simp;omega,by simp;omega⟩,hf,A9 _ rfl⟩|some j=>
   rw[hj]at A9 Bk;obtain⟨_,IV,hj2,Lf⟩:=Tr hj;simp only[lS]at IV hj2 Lf;obtain⟨_,hb'⟩:=hi _ (hat j IV);have q1:=hb.2.2;have q2:=hb'.2.2;unfold Bb at q1 q2;simp only[kP,iE,fY,dN,hY,dP]at A9 Bk⊢;refine⟨⟨by omega,by omega⟩,⟨by omega,by omega⟩,?_⟩;by_cases h1:(l.getD i Z).2.2.2+(l.getD j Z).2.2.2<0;·simp only[dL h1,dV];rw[hfn,Bk (by rw[dO h1])];rfl
   ·simp only[dR h1,dN];rw[dK h1]at A9;by_cases h2:(l.getD i Z).2.2.2+(l.getD j Z).2.2.2=0;·rw[dO h2]at A9;simp only[h2,hZ,dV];exact⟨⟨.inr (.inl rfl),hb⟩,⟨by simp;omega,by simp;omega⟩,hf,A9 _ rfl⟩
    ·rw[dK h2]at A9;rw[beq_eq_false_iff_ne.2 h2];simp only[dN];exact⟨⟨by simp;omega,by simp;omega⟩,hf,A9 _ rfl⟩
  ·simp only[bne_iff_ne.2 hk,iV,dV,ne_eq,hk,not_false_eq_true,hP]at A9⊢;exact⟨⟨by simp;omega,by simp;omega⟩,hf,A9 _ rfl⟩
 ·rintro⟨out,gone⟩R ht;rw[I0];simp only[eB,eK,dN];rw[hfn,ht];rfl
def Dq{α:Type}(f:α→α→Int):Prop:=(∀x y,f x y=-f y x)∧∀x y z,f x y≤0→f y z≤0→f x z≤0∧(f x z=0→f x y=0∧f y z=0)
theorem Dq.zero{α:Type}{f:α→α→Int}(h:Dq f){x y z:α}(h1:f x y=0)(h2:f y z=0):f x z=0:=by have a:=(h.2 x y z (by omega) (by omega)).1;have b:=(h.2 z y x (by have :=h.1 z y;omega) (by have :=h.1 y x;omega)).1;have :=h.1 x z;omega
theorem Dq.lex{α β:Type}{f:α→α→Int}{g:β→β→Int}(hf:Dq f)(hg:Dq g):Dq λx y:α×β=>if f x.1 y.1=0 then g x.2 y.2 else f x.1 y.1:=by
 refine⟨λx y=>?_,λx y z=>?_⟩;·have :=hf.1 x.1 y.1;have :=hg.1 x.2 y.2;simp only;split<;>split<;>omega
 ·have h1:=hf.2 x.1 y.1 z.1;have h2:=hg.2 x.2 y.2 z.2;have h3:=@Dq.zero _ _ hf x.1 y.1 z.1;simp only;intro ha hb;split at ha<;>split at hb<;>split<;>(try split)<;>(try split)<;>omega
theorem Dq.comap{α β:Type}{f:α→α→Int}(hf:Dq f)(g:β→α):Dq λx y=>f (g x) (g y):=⟨λx y=>hf.1 _ _,λx y z=>hf.2 _ _ _⟩
theorem H7:Dq Co:=by
 refine⟨λx y=>?_,λx y z=>?_⟩
 ·unfold Co;repeat' split
  all_goals omega
 ·unfold Co;repeat' split
  all_goals omega
theorem T3:∀a b:List Int,BT a b=-BT b a|[],[]=>rfl|[],_::_=>rfl|_::_,[]=>rfl|x::a,y::b=>by have h1:=H7.1 x y;have h2:=T3 a b;simp only[BT];split<;>split<;>omega
theorem T5:∀a b c:List Int,BT a b≤0→BT b c≤0→BT a c≤0∧(BT a c=0→BT a b=0∧BT b c=0)|[],[],[]=>by simp[BT]|[],[],_::_=>by simp[BT]|[],_::_,[]=>by simp[BT]|[],_::_,_::_=>by simp[BT]|_::_,[],_=>by simp[BT]|_::_,_::_,[]=>by simp[BT]|x::a,y::b,z::c=>by have h1:=H7.2 x y z;have h2:=T5 a b c;have h3:=@Dq.zero _ _ H7 x y z;simp only[BT];intro ha hb;split at ha<;>split at hb<;>split<;>(try split)<;>(try split)<;>omega
theorem ZN:Dq BT:=⟨T3,T5⟩
theorem K6{a b:Int}(h:Co a b=0):a=b:=by
 unfold Co at h;split at h;·omega
 ·split at h<;>omega
theorem T4:∀{a b:List Int},BT a b=0→a=b
 |[],[],_=>rfl|[],_::_,h=>by simp[BT]at h|_::_,[],h=>by simp[BT]at h|x::a,y::b,h=>by
  simp only[BT]at h;split at h;·rename_i h1;rw[K6 h1,T4 h]
  ·rename_i h1;exact absurd h h1
theorem PR(a b:G):Cd a b=if Co (E6 a.1) (E6 b.1)=0 then if Co a.2.1 b.2.1=0 then if BT a.2.2.1 b.2.2.1=0 then Co a.2.2.2 b.2.2.2 else BT a.2.2.1 b.2.2.1 else Co a.2.1 b.2.1 else Co (E6 a.1) (E6 b.1):=by
 simp only[Cd,Gp];split
 ·split
  ·split;·split<;>omega
   ·rfl
  ·rfl
 ·rfl
theorem Gq:Dq Cd:=by
 have h:=(H7.comap E6).lex (H7.lex (ZN.lex H7));refine⟨λx y=>?_,λx y z=>?_⟩;·have :=h.1 x y;simp only[PR];exact this
 ·have :=h.2 x y z;simp only[PR];exact this
theorem MH(a:G):Cd a a=0:=by have :=Gq.1 a a;omega
theorem Z3{a b:Int}(ha:EY a)(hb:EY b)(h:E6 a=E6 b):a=b:=by rcases ha with rfl|rfl|rfl<;>rcases hb with rfl|rfl|rfl<;>first|rfl|(simp[E6]at h)
theorem MG{a b:G}(ha:EY a.1)(hb:EY b.1)(h:Cd a b=0):a=b:=by
 rw[PR]at h;split at h
 ·rename_i h1;split at h
  ·rename_i h2;split at h;·rename_i h3;exact kI (Z3 ha hb (K6 h1)) (kI (K6 h2) (kI (T4 h3) (K6 h)))
   ·rename_i h3;exact absurd h h3
  ·rename_i h2;exact absurd h h2
 ·rename_i h1;exact absurd h h1
def SS(l:List G):Prop:=l.Pairwise λa b=>Cd a b<0
def K3(l:List G):Prop:=∀c∈l,EY c.1
theorem Qe:∀{l m:List G},SS l→SS m→(∀c,c∈l↔c∈m)→l=m
 |[],[],_,_,_=>rfl|[],b::m,_,_,h=>by have :=(h b).2 (by simp);simp at this|a::l,[],_,_,h=>by have :=(h a).1 (by simp);simp at this|a::l,b::m,h1,h2,h=>by
  obtain⟨SP,Xb⟩:=List.pairwise_cons.1 h1;obtain⟨SR,Xc⟩:=List.pairwise_cons.1 h2;have e:a=b:=by
   rcases List.mem_cons.1 ((h a).1 (by simp))with e|ha;·exact e
   rcases List.mem_cons.1 ((h b).2 (by simp))with e|hb;·exact e.symm
   have :=SP b hb;have :=SR a ha;have :=Gq.1 a b;omega
  subst e;congr 1;refine Qe Xb Xc λc=>?_;have hc:=h c;simp only[eA]at hc;have hn1:c∈l→c≠a:=λhm e=>by subst e;have :=SP _ hm;have :=MH c;omega
  have hn2:c∈m→c≠a:=λhm e=>by subst e;have :=SR _ hm;have :=MH c;omega
  exact⟨λhm=>(hc.1 (.inr hm)).resolve_left (hn1 hm),λhm=>(hc.2 (.inr hm)).resolve_left (hn2 hm)⟩
theorem Ls{c x:G}:∀{l:List G},x∈FW c l↔x=c∨x∈l
 |[]=>by simp[FW]|d::l=>by
  simp only[FW];split
  ·simp only[eA,Ls (l:=l)];constructor;·rintro(h|h|h)<;>simp[h]
   ·rintro(h|h|h)<;>simp[h]
  ·split;·rename_i h;subst h;simp
   ·simp
theorem Th{c:G}:∀{l:List G},EY c.1→K3 l→SS l→SS (FW c l)
 |[],_,_,_=>kM _ _|d::l,hc,hk,h=>by
  obtain⟨h1,h2⟩:=List.pairwise_cons.1 h;simp only[FW];split
  ·rename_i hd;refine List.pairwise_cons.2 ⟨λx hx=>?_,Th hc (λx hx=>hk x (by simp[hx])) h2⟩;rcases Ls.1 hx with rfl|hx;·exact hd
   ·exact h1 x hx
  ·rename_i hd;split;·exact h
   ·rename_i he;have AM:Cd c d<0:=by have :=Gq.1 c d;have :Cd d c≠0:=λe=>he (MG (hk d (by simp)) hc e);omega
    refine List.pairwise_cons.2 ⟨λx hx=>?_,h⟩;rcases List.mem_cons.1 hx with rfl|hx;·exact AM
    ·have :=h1 x hx;have :=Gq.2 c d x (by omega) (by omega);omega
theorem P3:∀{l out:List G},K3 l→K3 out→SS out→SS (l.foldl (λout c=>FW c out) out)∧∀x,x∈l.foldl (λout c=>FW c out) out↔x∈l∨x∈out
 |[],out,_,_,h=>⟨h,by simp⟩|c::l,out,h1,h2,h=>by
  have hc:=h1 c (by simp);obtain⟨g1,g2⟩:=P3 (l:=l) (out:=FW c out) (λx hx=>h1 x (by simp[hx])) (λx hx=>by
   rcases Ls.1 hx with rfl|hx;·exact hc
   ·exact h2 x hx) (Th hc h2 h);refine⟨g1,λx=>?_⟩;rw[gC,g2,Ls,eA];constructor;·rintro(h|h|h)<;>simp[h]
  ·rintro((h|h)|h)<;>simp[h]
theorem aQ{l:List G}(h:K3 l):SS (E7 l):=(P3 h (by intro c hc;simp at hc) List.Pairwise.nil).1
theorem Uz{l:List G}(h:K3 l)(x:G):x∈E7 l↔x∈l:=by have :=(P3 h (out:=[]) (by intro c hc;simp at hc) List.Pairwise.nil).2 x;simpa[E7]using this
theorem aR{l m:List G}(h:K3 l)(hs:SS m)(hm:∀c,c∈m↔c∈l):m=E7 l:=Qe hs (aQ h) λc=>by rw[hm,Uz h]
def Eg(out:List G)(x:G):List G:=if out.getLast?=some x then out else out++[x]
def De(l:List G):List G:=l.foldl Eg []
theorem NB:∀{l out:List G},K3 l→K3 out→SS out→l.Pairwise (λa b=>Cd a b≤0)→(∀a∈out,∀b∈l,Cd a b≤0)→SS (l.foldl Eg out)∧∀x,x∈l.foldl Eg out↔x∈l∨x∈out
 |[],out,_,_,h,_,_=>⟨h,by simp⟩|c::l,out,h1,h2,h,h3,h4=>by
  obtain⟨Xd,SU⟩:=List.pairwise_cons.1 h3;have h1':K3 l:=λx hx=>h1 x (by simp[hx]);rw[gC];by_cases e:out.getLast?=some c
  ·rw[show Eg out c=out by rw[Eg,dO e]];obtain⟨g1,g2⟩:=NB h1' h2 h SU λa ha b hb=>h4 a ha b (by simp[hb]);refine⟨g1,λx=>?_⟩;have B3:c∈out:=List.mem_of_getLast? e;rw[g2,eA];constructor;·rintro(h|h)<;>simp[h]
   ·rintro((h|h)|h);·subst h;exact .inr B3
    ·exact .inl h
    ·exact .inr h
  ·rw[show Eg out c=out++[c]by rw[Eg,dK e]];have AM:∀a∈out,Cd a c<0:=by
    intro a ha;have h5:=h4 a ha c (by simp);rcases Int.lt_or_eq_of_le h5 with h6|h6;·exact h6
    ·have Xl:=MG (h2 a ha) (h1 c (by simp)) h6;subst Xl;rcases List.eq_nil_or_concat out with h7|⟨i,z,h7⟩;·subst h7;simp at ha
     ·rw[List.concat_eq_append]at h7;subst h7;rw[List.getLast?_append]at e;simp only[List.getLast?_singleton,Option.some_or,gB]at e;have h8:=(List.pairwise_append.1 h).2.2;rcases List.mem_append.1 ha with ha|ha;·have h9:=h8 a ha z (by simp);have Au:=h4 z (by simp) a (by simp);have :=Gq.1 a z;omega
      ·simp only[eN]at ha;exact absurd ha.symm e
   obtain⟨g1,g2⟩:=NB (out:=out++[c]) h1' (λx hx=>by
    rcases List.mem_append.1 hx with hx|hx;·exact h2 x hx
    ·simp only[eN]at hx;subst hx;exact h1 x (by simp)) (List.pairwise_append.2 ⟨h,kM _ _,λa ha b hb=>by simp only[eN]at hb;subst hb;exact AM a ha⟩) SU λa ha b hb=>by
    rcases List.mem_append.1 ha with ha|ha;·exact h4 a ha b (by simp[hb])
    ·simp only[eN]at ha;subst ha;exact Xd b hb
   refine⟨g1,λx=>?_⟩;rw[g2,fC,eN,eA];constructor;·rintro(h|h|h)<;>simp[h]
   ·rintro((h|h)|h)<;>simp[h]
theorem WH{l b:List G}(hk:K3 l)(hp:l.Perm b)(hs:Iu Cd b):De b=E7 l:=by have hk':K3 b:=λc hc=>hk c (hp.mem_iff.2 hc);obtain⟨g1,g2⟩:=NB (out:=[]) hk' (by intro c hc;simp at hc) List.Pairwise.nil (hs.imp λ{a b}h=>by have :=Gq.1 a b;omega) (by intro a ha;simp at ha);refine aR hk g1 λc=>?_;have :=g2 c;rw[hp.mem_iff];simpa[De]using this
theorem WJ(out:List G)(x:G):(Eg out x).getLast?=some x:=by
 unfold Eg;split;·assumption
 ·simp
theorem Kb{n g:Int}(h:Bb n):Bb (n.tdiv g):=by have :=MB n g;unfold Bb at*;omega
theorem Wh{n:Int}{g:Nat}(hg:0<g)(h:Bb n):Bb (n/(g:Int)):=by
 unfold Bb at*;have h1:=Int.emod_add_mul_ediv n g;have h2:=iT n (show(g:Int)≠0 by omega);have h3:=iD n (show(0:Int)<g by omega);have h4:(1:Int)≤g:=by omega
 generalize n/(g:Int)=q at*;constructor
 ·apply mE;intro hq;have :(g:Int)*q≤1*q:=by have :=jF h4 (show q≤0 by omega);omega
  have h5:(g:Int)*(q+1)≤1*(q+1):=jF h4 (show q+1≤0 by omega);rw[Int.mul_add]at h5;omega
 ·apply mE;intro hq;have h5:1*q≤(g:Int)*q:=Int.mul_le_mul_of_nonneg_right h4 (show 0≤q by omega);omega
theorem UI{n m:Int}(h1:1≤m)(h2:m≤2305843009213693952):Bb (n%m):=by have h2:=iT n (show m≠0 by omega);have h3:=iD n (show(0:Int)<m by omega);unfold Bb;omega
theorem Ug{c:G}(h:condB c)(h0:(BD c).2=0):condB (BD c).1:=by
 obtain⟨hk,h1,h2,h3⟩:=h;have hs:∀b,(GB b).2≠0:=λb=>by cases b<;>simp[GB]
 unfold BD at h0⊢;rcases hk with hk|hk|⟨hk,FO,Lh⟩
 ·simp only[hk,hP]at h0⊢;unfold LP at h0⊢;by_cases hg:Av c.2.2.1=0;·rw[dO hg]at h0;exact absurd h0 (hs _)
  ·rw[dK hg];refine⟨.inl rfl,by simpa using h1,λn hn=>?_,Wh (by omega) h3⟩;obtain⟨m,hm,rfl⟩:=List.mem_map.1 hn;exact Kb (h2 m hm)
 ·simp only[hk,show(1:Int)≠0 by decide,hP,gK]at h0⊢;unfold Fl at h0⊢;by_cases hg:Av c.2.2.1=0∨c.2.2.2.tmod (Av c.2.2.1)≠0;·rw[dO hg]at h0;exact absurd h0 (hs _)
  ·rw[dK hg];refine⟨.inr (.inl rfl),by simpa using h1,λn hn=>?_,Kb h3⟩;obtain⟨m,hm,rfl⟩:=List.mem_map.1 hn;exact Kb (h2 m hm)
 ·simp only[hk,show(2:Int)≠0 by decide,show(2:Int)≠1 by decide,gK]at h0⊢;unfold JJ at h0⊢;split at h0;·exact absurd h0 (hs _)
  split at h0;·exact absurd h0 (hs _)
  rename_i ha hb;rw[dK ha,dK hb];have hp:0<C5 c:=SG FO _;have hle:C5 c≤c.2.1.toNat:=SF FO _;refine⟨.inr (.inr ⟨rfl,?_,?_⟩),by simpa using h1,λn hn=>?_,Kb (UI FO Lh)⟩;·show 1≤c.2.1.tdiv (C5 c);rw[Int.tdiv_eq_ediv_of_nonneg (by omega)];have :(1:Int)=(C5 c:Int)/(C5 c:Int):=(Int.ediv_self (by omega)).symm;rw[this];exact Int.ediv_le_ediv (by omega) (by omega)
  ·have :=MB c.2.1 (C5 c);show c.2.1.tdiv (C5 c)≤_;omega
  ·simp only[List.map_map,iI]at hn;obtain⟨m,hm,rfl⟩:=hn;exact Kb (UI FO Lh)
theorem condB.k3{c:G}(h:condB c):EY c.1:=by
 rcases h.1 with h|h|h;·exact .inl h
 ·exact .inr (.inl h)
 ·exact .inr (.inr h.1)
def Hm(out:List G)(c:G):Option (List G):=if(BD c).2<0 then none else if(BD c).2=0 then some (out++[(BD c).1])else some out
def Cw(p:List G):List G:=((p.map BD).filter λr=>decide (r.2=0)).map (·.1)
def F6(p:List G):Bool:=(p.map BD).any λr=>decide (r.2<0)
theorem Pl:∀(p out:List G),p.foldlM Hm out=if F6 p then none else some (out++Cw p)
 |[],out=>by simp[F6,Cw]|c::p,out=>by
  rw[fF];simp only[Hm,F6,Cw,fK,List.any_cons];by_cases h:(BD c).2<0;·simp[h]
  ·have ih:∀out,p.foldlM Hm out=if F6 p then none else some (out++Cw p):=Pl p;unfold F6 Cw at ih;by_cases h2:(BD c).2=0;·simp only[dK h,dO h2,fA,hU,ih,dR h,jY];simp[h2]
   ·simp only[dK h,dK h2,fA,hU,ih,dR h,jY];simp[h2]
theorem Uh{p:List G}(h:Bq p):Bq (Cw p):=by
 refine⟨?_,λc hc=>?_⟩;·have :=kZ (λr:G×Int=>decide (r.2=0)) (p.map BD);have :=h.1;simp only[Cw,fB]at*;omega
 ·simp only[Cw,iI,List.mem_filter]at hc;obtain⟨r,⟨⟨d,hd,rfl⟩,hr⟩,rfl⟩:=hc;exact Ug (h.2 d hd) (by simpa using hr)
theorem Zp{p:List G}(h:Bq p):T7 p:=⟨h.1,λc hc=>⟨(h.2 c hc).2.1,Ih (h.2 c hc).2⟩⟩
theorem ZA{a b:Int}(h:Bb a)(h2:Bb b):Bb (min a b):=by unfold Bb at*;omega
theorem ZL{P:G→Prop}(GX:∀d c,P d→P c→P (Hg d c.2.2.2)){out:List G}{c:G}(h:∀d∈out,P d)(hc:P c):∀d∈EK out c,P d:=by
 intro d hd;unfold EK at hd;have key:d∈out++[c]→P d:=λhd=>by
  rcases List.mem_append.1 hd with hd|hd;·exact h d hd
  ·simp only[eN]at hd;subst hd;exact hc
 split at hd;·exact key hd
 ·split at hd
  ·rename_i i hi;obtain⟨hi,_⟩:=TZ hi;rcases List.mem_or_eq_of_mem_set hd with hd|hd;·exact h d hd
   ·subst hd;exact GX _ _ (h _ (BQ (d:=Z) hi)) hc
  ·exact key hd
theorem T1{P:G→Prop}(GX:∀d c,P d→P c→P (Hg d c.2.2.2)){l:List G}(h:∀d∈l,P d):∀d∈Dl l,P d:=by
 have key:∀(l out:List G),(∀d∈out,P d)→(∀d∈l,P d)→∀d∈l.foldl EK out,P d:=by intro l;induction l with|nil=>exact λout h _=>h|cons c l ih=>exact λout h h2=>ih _ (ZL GX h (h2 c (by simp))) λd hd=>h2 d (by simp[hd])
 exact key l [] (by simp) h
theorem ZU{d c:G}(hb:condB d)(hc:condB c):condB (Hg d c.2.2.2):=⟨hb.1,hb.2.1,hb.2.2.1,ZA hb.2.2.2 hc.2.2.2⟩
theorem Tz{l:List G}(h:Bq l):Bq (Dl l):=by have :=O6 l [];have :=h.1;exact⟨by simp only[Dl];simp at*;omega,T1 (λd c=>ZU) h.2⟩
theorem W9{c:G}(h:linB c.2.2):condB (BD (1,0,c.2.2)).1:=by
 have hb:condB (1,0,c.2.2):=⟨.inr (.inl rfl),h⟩;by_cases h0:(BD (1,0,c.2.2)).2=0;·exact Ug hb h0
 ·have hd:condB Z:=⟨.inl rfl,by simp,by simp,(by unfold Bb;omega:Bb 0)⟩;have :(BD (1,0,c.2.2)).1=Z:=by
   simp only[BD,show(1:Int)≠0 by decide,hP,gK]at h0⊢;unfold Fl at h0⊢;split;·simp[GB]
   ·rename_i h1;rw[dK h1]at h0;exact absurd rfl h0
  rw[this];exact hd
theorem Zl{P:G→Prop}(heq:∀c,c.1=0→P c→P (BD (1,0,c.2.2)).1){l:List G}{st st':List G×(Int→Option Bool)}{ic:Nat×G}(h:FZ l st ic=some st')(h1:∀d∈st.1,P d)(h2:P ic.2):∀d∈st'.1,P d:=by
 have key:∀x,P x→∀d∈st.1++[x],P d:=λx hx d hd=>by
  rcases List.mem_append.1 hd with hd|hd;·exact h1 d hd
  ·simp only[eN]at hd;subst hd;exact hx
 unfold FZ at h;split at h;·cases h;exact h1
 ·split at h;·cases h;exact key _ h2
  ·rename_i j hj;have h0:ic.2.1=0:=by
    rcases Decidable.em (ic.2.1=0)with h0|h0;·exact h0
    ·rw[dO h0]at hj;cases hj
   split at h;·cases h
   ·split at h;·cases h;exact key _ (heq _ h0 h2)
    ·cases h;exact key _ h2
theorem PZ{P:G→Prop}(heq:∀c,c.1=0→P c→P (BD (1,0,c.2.2)).1){l:List G}:∀{m:List (Nat×G)}{st st':List G×(Int→Option Bool)},m.foldlM (FZ l) st=some st'→(∀d∈st.1,P d)→(∀ic∈m,P ic.2)→∀d∈st'.1,P d|[],st,st',h,h1,_=>by cases h;exact h1|x::m,st,st',h,h1,h2=>by simp only[fF,fA,eV]at h;obtain⟨s,h3,h4⟩:=h;exact PZ heq h4 (Zl heq h3 h1 (h2 x (by simp))) λic Jl=>h2 ic (by simp[Jl])
theorem VM{l:List G}{ic:Nat×G}(h:ic∈GD l):ic.2∈l:=by simp only[GD,iI,List.mem_range]at h;obtain⟨i,hi,rfl⟩:=h;exact BQ hi
theorem UY{l out:List G}(h:Bq l)(hp:Ec l=some out):Bq out:=by unfold Ec at hp;rw[eL]at hp;obtain⟨st,h1,rfl⟩:=hp;have :=Pa h1;rw[I0]at this;have h0:=h.1;refine⟨by simp at this;omega,PZ (P:=condB) (λc _ hc=>W9 hc.2) h1 (by simp) λic Jl=>h.2 _ (VM Jl)⟩
theorem Zk{P:G→Prop}(heq:∀c,c.1=0→P c→P (BD (1,0,c.2.2)).1){l out:List G}(h:∀d∈l,P d)(hp:Ec l=some out):∀d∈out,P d:=by unfold Ec at hp;rw[eL]at hp;obtain⟨st,h1,rfl⟩:=hp;exact PZ heq h1 (by simp) λic Jl=>h _ (VM Jl)
theorem Ro(C:List Int)(l:List G)(c:G):DH C (l++[c])=if c.1=1∧c.2.2.1=C then some c.2.2.2 else DH C l:=by
 simp only[DH,List.reverse_append,List.reverse_singleton,List.singleton_append,List.find?_cons];by_cases h:c.1=1∧c.2.2.1=C;·rw[dO h,dL h];rfl
 ·rw[dK h,dR h]
theorem XB{C:List Int}{l:List G}{n:Int}(h:DH C l=some n):∃c∈l,c.1=1∧c.2.2.1=C∧c.2.2.2=n:=by simp only[DH,eL]at h;obtain⟨c,hc,rfl⟩:=h;have h1:=List.mem_of_find?_eq_some hc;have h2:=List.find?_some hc;simp only[gJ]at h2;exact⟨c,by simpa using h1,h2.1,h2.2,rfl⟩
theorem KV{l:List G}:∀{m out out':List G},m.foldlM (Gs l) out=some out'→out'.length≤out.length+m.length∧∀d∈out',d∈out∨d∈m
 |[],out,out',h=>by cases h;simp|c::m,out,out',h=>by
  simp only[fF,fA,eV]at h;obtain⟨s,h3,h4⟩:=h;obtain⟨h5,h6⟩:=KV h4;have h7:s=out∨s=out++[c]:=by
   unfold Gs at h3;split at h3;·cases h3;exact .inr rfl
   ·split at h3;·split at h3<;>cases h3;exact .inl rfl
    ·split at h3;·split at h3<;>cases h3;exact .inl rfl
     ·cases h3;exact .inr rfl
  rcases h7 with rfl|rfl
  ·refine⟨by simp only[dX];omega,λd hd=>?_⟩;rcases h6 d hd with h|h;·exact .inl h
   ·exact .inr (by simp[h])
  ·refine⟨by simp only[dX,dW,eC]at*;omega,λd hd=>?_⟩;rcases h6 d hd with h|h
   ·rcases List.mem_append.1 h with h|h;·exact .inl h
    ·simp only[eN]at h;subst h;exact .inr (by simp)
   ·exact .inr (by simp[h])
theorem aH{l out:List G}(h:Bq l)(hs:Ed l=some out):Bq out:=by
 unfold Ed at hs;split at hs;·cases hs
 ·obtain⟨h1,h2⟩:=KV hs;have :=h.1;exact⟨by simp at h1;omega,λd hd=>(h2 d hd).elim (by simp) (h.2 d)⟩
theorem aI{P:G→Prop}{l out:List G}(h:∀d∈l,P d)(hs:Ed l=some out):∀d∈out,P d:=by
 unfold Ed at hs;split at hs;·cases hs
 ·exact λd hd=>((KV hs).2 d hd).elim (by simp) (h d)
theorem Ik{α:Type}(o:Option α):o=none∨∃x,o=some x:=by cases o<;>simp
theorem Iw(p:List G):A0 p=if F6 p then([],true,(0:Int))else match(Ec (Dl (Cw p))).bind Ed with|none=>([],true,(0:Int))|some out=>if(Cw p).any (λc=>!AG c)||decide (96<(E7 out).length)then([],false,3)else(E7 out,false,0):=rfl
theorem B9.fn_eq(l:List G):B9.fn (l,())=match Ec l with|none=>([],true)|some out=>(out,false):=rfl
theorem RB{b:List G}{i:Nat}(h:i<b.length):De (b.take (i+1))=Eg (De (b.take i)) (b.getD i Z):=by rw[DE Z h,De,iF];rfl
theorem WI{b:List G}{i:Nat}(h:i<b.length):(De (b.take (i+1))).getLast?=some (b.getD i Z):=by rw[RB h];exact WJ _ _
theorem RA{b:List G}{i:Nat}(h:i+1<b.length):De (b.take (i+2))=if b.getD (i+1) Z=b.getD i Z then De (b.take (i+1))else De (b.take (i+1))++[b.getD (i+1) Z]:=by
 rw[RB h,Eg,WI (by omega)];by_cases e:b.getD (i+1) Z=b.getD i Z;·rw[dO e,dO (by rw[e])]
 ·rw[dK e,dK λh=>e (gQ h).symm]
theorem AP.spec(p:List G)(hp:AP.pre (p,())):AP.wp p λr=>r=AP.fn (p,()):=by
 have hp':Bq p:=hp;have hl:=hp'.1;have hQ:AP.fn (p,())=A0 p:=rfl;simp only[AP.wp,hQ];refine Lp.foldO p Z Hm [] (by omega) ?_ ?_
 ·intro i out R e e2 hf ht A9 Bk;have hb:=hp'.2 _ (BQ (d:=Z) e);have hlen:=Nt (f:=Hm) λt x t' h=>by
   unfold Hm at h;split at h;·cases h
   ·split at h<;>(cases h;simp) _ _ _ ht;simp only[eC,eM]at hlen;simp only[dL e2,dP,dV];refine⟨⟨by omega,by omega⟩,hb,?_⟩;simp only[Hm]at A9 Bk;by_cases h1:(BD (p.getD i Z)).2<0;·simp only[As.fn,dL h1,dV];have :=Bk (by rw[dO h1]);rw[Pl]at this;rw[Iw];cases hv:F6 p with|true=>rfl|false=>rw[hv]at this;cases this
  ·simp only[As.fn,dR h1,dN];rw[dK h1]at A9;by_cases h2:(BD (p.getD i Z)).2=0;·rw[dO h2]at A9;simp only[h2,hZ,dV];exact⟨⟨by simp;omega,by simp;omega⟩,hf,A9 _ rfl⟩
   ·rw[dK h2]at A9;simp only[beq_eq_false_iff_ne.2 h2,dN];exact⟨hf,A9 _ rfl⟩
 intro raws R Ia;rw[Pl]at Ia;have hv:F6 p=false:=by cases h:F6 p with|true=>rw[h]at Ia;cases Ia|false=>rfl
 rw[hv]at Ia;simp only[eW,gK,hG,gB]at Ia;subst Ia;simp only[eB,eK,dN];have Oe:=Uh hp';have FR:A0 p=match(Ec (Dl (Cw p))).bind Ed with|none=>([],true,(0:Int))|some out=>if(Cw p).any (λc=>!AG c)||decide (96<(E7 out).length)then([],false,3)else(E7 out,false,0):=by rw[Iw,hv];rfl
 generalize Cw p=l at*;generalize hT:A0 p=T at*;have OW:=Tz Oe;refine⟨λ_ _=>trivial,Zp Oe,OW,?_⟩;simp only[B9.fn_eq,CM.fn];rcases Ik (Ec (Dl l))with HX|⟨out,HX⟩;·simp only[HX,dV];rw[FR,HX];rfl
 ·simp only[HX,dN];rw[HX]at FR;simp only[hU]at FR;have Lk:=UY OW HX;have GY:=Lk.1;have Fs:∀i,i<out.length→condB (out.getD i Z):=λi hi=>Lk.2 _ (BQ hi);clear HX OW Oe hp' hp;refine Lp.iter out.length (λi y=>y.1=(i:Int)∧(out.take i).foldlM FD []=some (out.take i)∧∀C,y.2 (BM (A3 C 1))=DH C (out.take i)) ⟨rfl,rfl,λC=>rfl⟩ ?_;rintro i⟨y,m⟩hle⟨hy,hf,hm⟩R hR;simp only at hy hm;subst hy;by_cases e:i<out.length
  ·have hb:=Fs i e;have EX:=DE Z e;have IU:(out.take (i+1)).foldlM FD []=FD (out.take i) (out.getD i Z):=by rw[EX,gX,hf];show(FD _ _).bind _=_;cases FD (out.take i) (out.getD i Z)<;>rfl
   have Lo:FD (out.take i) (out.getD i Z)=none→T=([],true,0):=λh=>by
    have h1:out.foldlM FD []=none:=by rw[←gD (i+1) out,gX,IU,h];rfl
    rw[FR,Ed,h1]
   simp only[dL (show(i:Int)<(out.length:Int)by omega),dP,dV];refine⟨⟨by omega,by omega⟩,?_⟩;by_cases hk:(out.getD i Z).1=1
   ·simp only[hk,eI,dN,BB.fn];have hg:∀b:Bool,b=true→b=true∧True:=λb h=>⟨h,trivial⟩;refine⟨⟨hb.2.1,Ih hb.2,.inl rfl⟩,hg _,hg _,λh=>⟨h,h,trivial⟩,λh=>h,?_⟩;simp only[hm];have hstep:FD (out.take i) (out.getD i Z)=match DH (out.getD i Z).2.2.1 (out.take i)with|some n=>if n≠(out.getD i Z).2.2.2 then none else some (out.take i++[out.getD i Z])|none=>some (out.take i++[out.getD i Z]):=by unfold FD;exact dK λh=>h hk
    have BJ:∀C,Bm m (BM (A3 (out.getD i Z).2.2.1 1)) (out.getD i Z).2.2.2 (BM (A3 C 1))=DH C (out.take (i+1)):=λC=>by
     rw[EX,Ro];simp only[Bm,O1];by_cases hC:C=(out.getD i Z).2.2.1;·rw[dO hC,dO ⟨hk,hC.symm⟩]
     ·rw[dK hC,dK λh=>hC h.2.symm];exact hm C
    cases hq:DH (out.getD i Z).2.2.1 (out.take i)with|none=>rw[hq]at hstep;simp only[gY,Bool.false_and,dN];refine⟨⟨by omega,by omega⟩,hR e _ ⟨rfl,?_,BJ⟩⟩;rw[IU,hstep,EX]|some n=>
     rw[hq]at hstep;simp only[iE,hY,jC];by_cases hn:n=(out.getD i Z).2.2.2;·simp only[hn,eI,dN];refine⟨⟨by omega,by omega⟩,hR e _ ⟨rfl,?_,BJ⟩⟩;rw[IU,EX];exact hstep.trans (dK λh=>h hn)
     ·simp only[bne_iff_ne.2 hn,dV];exact(Lo (hstep.trans (dO hn))).symm
   ·simp only[bne_iff_ne.2 hk,dV];refine⟨⟨by omega,by omega⟩,hR e _ ⟨rfl,?_,λC=>?_⟩⟩;·rw[IU,EX];exact dO hk
    ·rw[EX,Ro,dK λh=>hk h.1];exact hm C
  have OR:i=out.length:=by omega
  subst OR;clear hR hle;simp only[eB,eK,dN];rw[eD]at hf hm;have BN:Ed out=out.foldlM (Gs out) []:=by rw[Ed,hf]
  rw[BN]at FR;refine Lp.foldO out Z (Gs out) [] (by omega) ?_ ?_
  ·intro i o2 R e e2 La ht A9 Bk;have hb:=Fs i e;obtain⟨hlen,_⟩:=KV ht;simp only[eC,eM]at hlen;simp only[dL e2,dP,dV];refine⟨⟨by omega,by omega⟩,?_⟩;have Lo:Gs out o2 (out.getD i Z)=none→T=([],true,0):=λh=>by rw[FR,Bk h]
   clear Bk;by_cases hk:(out.getD i Z).1=0
   ·simp only[hk,hZ,dV,BB.fn];refine⟨⟨hb.2.1,Ih hb.2,.inl rfl⟩,?_⟩;simp only[Tm.2 (rfl:F2 (out.getD i Z).2.2.1=_),hm];have hstep:Gs out o2 (out.getD i Z)=match DH (out.getD i Z).2.2.1 out with|some n=>if(out.getD i Z).2.2.2<n then none else some o2|none=>match DH (F2 (out.getD i Z).2.2.1) out with|some n=>if(out.getD i Z).2.2.2+n<0 then none else some o2|none=>some (o2++[out.getD i Z]):=by unfold Gs;exact dK λh=>h hk
    cases hq:DH (out.getD i Z).2.2.1 out with|some n=>
     rw[hq]at hstep;simp only[iE,hY,dV]at hstep⊢;by_cases hn:(out.getD i Z).2.2.2<n;·simp only[dL hn,dV];exact(Lo (by rw[hstep,dO hn])).symm
     ·simp only[dR hn,dN];exact⟨La,A9 _ (by rw[hstep,dK hn])⟩|none=>rw[hq]at hstep;simp only[gY,dN]at hstep⊢;refine⟨⟨hb.2.1,Ih hb.2,.inr rfl⟩,?_⟩;cases Od:DH (F2 (out.getD i Z).2.2.1) out with
     |some n=>
      rw[Od]at hstep;obtain⟨d,hd,_,_,OE⟩:=XB Od;have q1:=(Lk.2 d hd).2.2.2;have q2:=hb.2.2.2;rw[OE]at q1;unfold Bb at q1 q2;simp only[iE,hY,dV]at hstep⊢;refine⟨⟨by omega,by omega⟩,?_⟩;by_cases hn:(out.getD i Z).2.2.2+n<0;·simp only[dL hn,dV];exact(Lo (by rw[hstep,dO hn])).symm
      ·simp only[dR hn,dN];exact⟨La,A9 _ (by rw[hstep,dK hn])⟩|none=>rw[Od]at hstep;simp only[gY,dN]at hstep⊢;exact⟨⟨by simp;omega,by simp;omega⟩,La,A9 _ hstep⟩
   ·simp only[beq_eq_false_iff_ne.2 hk,dN];exact⟨⟨by simp;omega,by simp;omega⟩,La,A9 _ (dO hk)⟩
  intro res R J2;simp only[eB,eK,dN];rw[J2]at FR;simp only at FR;obtain⟨Ib,TL⟩:=KV J2;simp only[eC,fE]at Ib;have Jq:K3 res:=λd hd=>(TL d hd).elim (by simp) λh=>(Lk.2 d h).k3;clear J2 BN hm hf Fs TL;refine⟨⟨by omega,λa ha b hb=>⟨Jq a ha,Jq b hb⟩⟩,λb8 Xq=>?_⟩;obtain⟨hperm,FQ⟩:=Xq;have FK:=WH Jq hperm FQ;have Xt:b8.length≤1048576:=by have :=hperm.length_eq;omega
  have LW:∀i,i<b8.length→EY (b8.getD i Z).1:=λi hi=>Jq _ (hperm.mem_iff.2 (BQ hi));rw[←FK]at FR;clear FK hperm FQ Ib Jq;have OL:∀(b:Bool)(r:List G),b=(l.any λc=>!AG c)→r=De b8→cond (b||decide ((96:Int)<(r.length:Int))) ((([]:List G),false,(3:Int))=T) ((r,false,(0:Int))=T):=by rintro b r rfl rfl;rw[FR];have e:decide ((96:Int)<((De b8).length:Int))=decide (96<(De b8).length):=decide_eq_decide.2 (by omega);rw[e];cases h:(l.any λc=>!AG c)||decide (96<(De b8).length)<;>rfl
  have hg:∀b:Bool,b=true→b=true∧True:=λb h=>⟨h,trivial⟩;have OP:∀b:Bool,b=false→(!b)=true:=λb h=>by rw[h];rfl
  by_cases hs:b8.length<2;·simp only[dL (show((b8.length:Nat):Int)<2 by omega),dV];refine⟨hg _,hg _,OP _,OL _ _ rfl ?_⟩;match b8,hs with|[],_=>rfl|[x],_=>rfl
  simp only[dR (show¬((b8.length:Nat):Int)<2 by omega),dN];refine Lp.iter (b8.length-1) (λi y=>y=(i:Int)+1∧De (b8.take (i+1))=b8.take (i+1)) ⟨rfl,?_⟩ ?_;·match b8,hs with|x::b,_=>rfl|[],h=>exact absurd (by simp) h
  rintro i y hle⟨rfl,hc⟩R hR;by_cases e:i+1<b8.length
  ·have t1:((i:Int)+1).toNat=i+1:=by omega
   have t2:((i:Int)+1-1).toNat=i:=by omega
   simp only[dL (show(i:Int)+1<(b8.length:Int)by omega),dV,t1,t2];have k1:=LW (i+1) e;have k2:=LW i (by omega);have hcs:=RA e;refine⟨⟨by omega,by omega⟩,by omega,⟨by omega,by omega⟩,⟨by omega,by omega⟩,by omega,⟨k1,k2⟩,?_⟩;by_cases heq:b8.getD (i+1) Z=b8.getD i Z
   ·have :(Cd (b8.getD (i+1) Z) (b8.getD i Z)==0)=true:=by rw[heq,MH];rfl
    simp only[By.fn,this,dV];rw[dO heq]at hcs;refine⟨⟨by omega,by omega⟩,?_⟩;clear hR;refine Lp.iter (b8.length-(i+1)-1) (λk y=>y.1=(k:Int)+1∧∃n:Nat,y.2.1=(n:Int)∧n≤i+1+k∧y.2.2.length=b8.length∧De (b8.take (i+1+k+1))=y.2.2.take n∧∀j,i+1+k≤j→y.2.2.getD j Z=b8.getD j Z) ⟨rfl,i+1,rfl,by omega,rfl,by rw[←hc,←hcs],λj _=>rfl⟩ ?_;rintro k⟨y1,y2,a⟩dA⟨Gc,n,TV,hn,hal,hca,BA⟩R2 Bk;simp only at Gc TV hal hca BA;subst Gc TV;by_cases e2:i+1+k+1<b8.length
    ·have t3:((k:Int)+1).toNat=k+1:=by omega
     have t4:((k:Int)+1-1).toNat=k:=by omega
     simp only[dL (show(k:Int)+1<((b8.length-(i+1):Nat):Int)by omega),dV,t3,t4,dP,fE];have g1:a.getD (i+1+(k+1)) Z=b8.getD (i+1+k+1) Z:=BA _ (by omega);have g2:a.getD (i+1+k) Z=b8.getD (i+1+k) Z:=BA _ (by omega);simp only[g1,g2];have k3:=LW (i+1+k+1) e2;have k4:=LW (i+1+k) (by omega);have LY:=RA e2;refine⟨⟨by omega,by omega,by omega⟩,by omega,⟨by omega,by omega⟩,⟨by omega,by omega,by omega⟩,by omega,⟨k3,k4⟩,?_⟩;by_cases LZ:b8.getD (i+1+k+1) Z=b8.getD (i+1+k) Z
     ·have :(Cd (b8.getD (i+1+k+1) Z) (b8.getD (i+1+k) Z)==0)=true:=by rw[LZ,MH];rfl
      simp only[By.fn,this,fY,dN];rw[dO LZ]at LY;refine⟨⟨by omega,by omega⟩,Bk (by omega) _ ⟨by simp,n,rfl,by omega,hal,?_,λj hj=>BA j (by omega)⟩⟩;rw[show i+1+(k+1)+1=i+1+k+2 by omega,LY,hca]
     ·have :(Cd (b8.getD (i+1+k+1) Z) (b8.getD (i+1+k) Z)==0)=false:=beq_eq_false_iff_ne.2 λh=>LZ (MG k3 k4 h);simp only[By.fn,this,kW,dV];rw[dK LZ]at LY;refine⟨⟨by omega,by omega,by omega⟩,by omega,⟨by omega,by omega⟩,by omega,⟨by omega,by omega⟩,⟨by omega,by omega⟩,Bk (by omega) _ ⟨by simp,n+1,by simp,by omega,by simp[hal],?_,λj hj=>?_⟩⟩
      ·rw[show i+1+(k+1)+1=i+1+k+2 by omega,LY,hca];simp only;rw[List.take_set,lY,jE _ _ (by simp;omega)];have YT:n-(a.take n).length=0:=by simp;omega
       rw[YT,dY (show n<a.length by omega)];rfl
      ·simp only;rw[dM,jI (by omega),←dM];exact BA j (by omega)
    ·have hk:i+1+k+1=b8.length:=by omega
     simp only[dR (show¬(k:Int)+1<((b8.length-(i+1):Nat):Int)by omega),dN,dP,fE];rw[hk,eD]at hca;have Dv:List.drop (n+(a.length-n)) a=[]:=jB (by omega);simp only[Dv,gZ,jT];have Oj:List.take n (a.take n++List.replicate (a.length-n) Z)=a.take n:=by rw[List.take_append_of_le_length (by simp;omega),List.take_take,Nat.min_self]
     have IW:(a.take n++List.replicate (a.length-n) Z).length=a.length:=by simp;omega
     simp only[Oj,IW];exact⟨⟨by omega,by omega⟩,by omega,⟨by omega,by omega⟩,by omega,hg _,hg _,OP _,OL _ _ rfl hca.symm⟩
   ·have :(Cd (b8.getD (i+1) Z) (b8.getD i Z)==0)=false:=beq_eq_false_iff_ne.2 λh=>heq (MG k1 k2 h);simp only[By.fn,this,dN];rw[dK heq]at hcs;refine⟨⟨by omega,by omega⟩,hR (by omega) _ ⟨by omega,?_⟩⟩;rw[hcs,hc,DE Z e]
  ·have hi:i+1=b8.length:=by omega
   simp only[dR (show¬(i:Int)+1<(b8.length:Int)by omega),dN];rw[hi,eD]at hc;exact⟨hg _,hg _,OP _,OL _ _ rfl hc.symm⟩
abbrev CA.fn(x:List (List G)×Unit):List G:=x.1.flatten
abbrev CA.pre(x:List (List G)×Unit):Prop:=x.1.length≤1048576∧x.1.flatten.length≤1048576
def Bz(out:List (List G))(p:List G):Option (List (List G)):=if(A0 p).2.2≠0 then none else if(A0 p).2.1=true∨(A0 p).1∈out then some out else if 400<out.length+1 then none else some (out++[(A0 p).1])
def P9(l:List (List G)):Option (List (List G)):=l.foldlM Bz []
def KL(n:Int)(o:Option (List (List G))):Ag×Int:=match o with|none=>((0,[]),3)|some out=>((n,out),0)
def B6(x:Ag):Ag×Int:=if Ar x=false then((0,[]),1)else KL x.1 (P9 x.2)
abbrev Be.fn(x:Ag×Unit):Ag×Int:=B6 x.1
def FC(a b:List G)(out:List (List G))(i:Nat):Option (List (List G)):=if(Dn (b.getD i Z)).2≠0 then none else some (out++(Dn (b.getD i Z)).1.map λo=>a++(b.take i++[o]))
def DG(a b:List G):List (List G)×Int:=if(A0 (a++b)).2.2≠0 then([],3)else if(A0 (a++b)).2.1=true then([a],0)else match(List.range b.length).foldlM (FC a b) []with|none=>([],3)|some out=>(out,0)
def Ch(p:List G):Prop:=p.length≤4096∧∀c∈p,AG c=true
abbrev Cg.fn(x:List G×List G×Unit):List (List G)×Int:=DG x.1 x.2.1
abbrev Cg.pre(x:List G×List G×Unit):Prop:=Ch x.1∧Ch x.2.1
def Ij(cur:List (List G))(b:List G):Option (List (List G)):=cur.foldlM (λout a=>if(DG a b).2≠0 then none else(DG a b).1.foldlM Bz out) []
def Gk(x y:Ag):Ag×Int:=if I9 x y≠0 then((0,[]),I9 x y)else if(B6 x).2≠0∨(B6 y).2≠0 then((0,[]),3)else KL x.1 ((B6 y).1.2.foldlM Ij (B6 x).1.2)
abbrev DZ.fn(x:Ag×Ag×Unit):Ag×Int:=Gk x.1 x.2.1
abbrev C0.fn(x:List (List G)×((List G→Prop)×(List G→Bool))×Unit):Int:=DN x.2.1.2 x.1 0
abbrev C0.pre(x:List (List G)×((List G→Prop)×(List G→Bool))×Unit):Prop:=∀c∈x.1,x.2.1.1 c
abbrev DD.fn(x:List (List G)×((List G→Prop)×(List G→Bool))×Unit):Bool:=x.1.any x.2.1.2
abbrev DD.pre(x:List (List G)×((List G→Prop)×(List G→Bool))×Unit):Prop:=∀c∈x.1,x.2.1.1 c
def B0(n:Int):Bool:=decide (-4294967296≤n)&&decide (n≤4294967296)
def Bs:List Int→List Int→Int|x::a,y::b=>x*y+Bs a b|_,_=>0
def C6(a b:List Int):Int×Int:=if a.length≠b.length then(0,2)else if 12<a.length then(0,3)else if(a.zip b).all λp=>BF p.1&&B0 p.2 then(Bs a b,0)else(0,6)
abbrev DR.fn(x:List Int×List Int×Unit):Int×Int:=C6 x.1 x.2.1
def Ef(l:BH)(p:List Int):Int×Int:=if Az l=false then(0,1)else if(C6 l.1 p).2≠0 then(0,(C6 l.1 p).2)else(l.2+(C6 l.1 p).1,0)
abbrev DQ.fn(x:BH×List Int×Unit):Int×Int:=Ef x.1 x.2.1
def Hu(c:G)(v:Int):Bool:=if c.1=0 then decide (0≤v)else if c.1=1 then v==0 else v.tmod c.2.1==0
def EG(c:G)(p:List Int):Bool×Int:=if AG c=false then(false,1)else if(Ef c.2.2 p).2≠0 then(false,(Ef c.2.2 p).2)else(Hu c (Ef c.2.2 p).1,0)
abbrev Dg.fn(x:G×List Int×Unit):Bool×Int:=EG x.1 x.2.1
abbrev D4.fn(x:G×List Int×Unit):Bool:=!(EG x.1 x.2.1).1
abbrev D3.fn(x:List G×List Int×Unit):Bool:=!x.1.any λc=>!(EG c x.2.1).1
def Du(s:Ag)(p:List Int):Bool×Int:=if Ar s=false then(false,1)else if((p.length:Nat):Int)≠s.1 then(false,2)else if p.all B0=false then(false,6)else(s.2.any λq=>!q.any λc=>!(EG c p).1,0)
abbrev DY.fn(x:Ag×List Int×Unit):Bool×Int:=Du x.1 x.2.1
def Be.wp(x0:Int×List (List G))(Q:(Int×List (List G))×Int→Prop):Prop:=cond (! Ap.fn (x0,())) (Q ((0,([]:List (List G))),1)) (Lp (σ:=Int×List (List G)×(ByteArray→Option Bool)) (λy2 R2=>let v0:=x0.2.getD y2.1.toNat ([]:List G);let v1:=Bc.fn ((AP.fn (v0,())).1,());let v3:=[(AP.fn (v0,())).1];cond (decide (y2.1<x0.2.length)) ((0≤y2.1∧y2.1<x0.2.length)∧AP.pre (v0,())∧cond (((AP.fn (v0,())).2).2 !=0) (cond (((AP.fn (v0,())).2).2 !=0) (Q ((0,([]:List (List G))),((AP.fn (v0,())).2).2)) (Q ((x0.1,([]:List (List G))),0))) (((!((AP.fn (v0,())).2).1)=true→(!((AP.fn (v0,())).2).1)=true∧Bc.pre ((AP.fn (v0,())).1,()))∧((!((AP.fn (v0,())).2).1)=true→(!((AP.fn (v0,())).2).1)=true∧(!((AP.fn (v0,())).2).1)=true∧True)∧(((AP.fn (v0,())).2).1=false→(!((AP.fn (v0,())).2).1)=true)∧cond (((AP.fn (v0,())).2).1||Option.getD (y2.2.2 v1) false) (AD .i64 (y2.1+1)∧R2 ( y2.1+1,y2.2)) (Bc.pre ((AP.fn (v0,())).1,())∧((y2.2.1.length+v3.length)*24≤140737488355328∧y2.2.1.length+v3.length≤9223372036854775807)∧cond (decide (400<(( List.length (y2.2.1++v3):Nat):Int))) (Q ((0,([]:List (List G))),3)) (AD .i64 (y2.1+1)∧R2 ( y2.1+1,( y2.2.1++v3,Bm y2.2.2 v1 true)))))) (Q ((x0.1,y2.2.1),0))) (0,(([]:List (List G)),λ(a2:ByteArray)=>(none:Option Bool))))
def CA.wp(x0:List (List G))(Q:List G→Prop):Prop:=Lp (σ:=Int×Int) (λy2 R2=>let v0:=x0.getD y2.1.toNat ([]:List G);cond (decide (y2.1<x0.length)) ((0≤y2.1∧y2.1<x0.length)∧AD .i64 (y2.2+v0.length)∧cond (decide ( y2.2+v0.length<0)) False (AD .i64 (y2.1+1)∧R2 ( y2.1+1,y2.2+v0.length))) (cond (decide (y2.2<0)) False (AD .i64 (0-0)∧AD .i64 (y2.2-(0-0))∧cond (decide (0<y2.2-(0-0))) ((0≤(0:Int)∧0≤((0:Nat):Int))∧(0≤y2.2-(0-0)∧(y2.2-(0-0))*((48:Nat):Int)≤140737488355328∧y2.2-(0-0)≤9223372036854775807)∧(0≤(0:Int)∧0≤((List.length (.replicate (Int.toNat (y2.2-(0-0))) Z):Nat):Int))∧Lp (σ:=Int×List G) (λy4 R4=>let v3:=x0.getD y4.1.toNat ([]:List G);cond (decide (y4.1<x0.length)) ((0≤y4.1∧y4.1<x0.length)∧((y4.2.length+v3.length)*48≤140737488355328∧y4.2.length+v3.length≤9223372036854775807)∧AD .i64 (y4.1+1)∧R4 ( y4.1+1,y4.2++v3)) (Q y4.2)) (0,([]:List G))) (Lp (σ:=Int×List G) (λy4 R4=>let v3:=x0.getD y4.1.toNat ([]:List G);cond (decide (y4.1<x0.length)) ((0≤y4.1∧y4.1<x0.length)∧((y4.2.length+v3.length)*48≤140737488355328∧y4.2.length+v3.length≤9223372036854775807)∧AD .i64 (y4.1+1)∧R4 ( y4.1+1,y4.2++v3)) (Q y4.2)) (0,([]:List G)))))) (0,0)
def Cg.wp(x0:List G)(x1:List G)(Q:List (List G)×Int→Prop):Prop:=let v0:=CA.fn ([x0,x1],());CA.pre ([x0,x1],())∧AP.pre (v0,())∧cond (((AP.fn (v0,())).2).2 !=0) (Q (([]:List (List G)),((AP.fn (v0,())).2).2)) (cond ((AP.fn (v0,())).2).1 (Q ([x0],0)) (Lp (σ:=Int×List (List G)) (λy3 R3=>let v2:=DF.fn ( x1.getD y3.1.toNat Z,());let v3:=List.take y3.1.toNat x1;cond (decide (y3.1<x1.length)) ((0≤y3.1∧y3.1<x1.length)∧cond (v2.2 !=0) (Q (([]:List (List G)),v2.2)) (Lp (σ:=Int×List (List G)) (λy5 R5=>let v4:=v2.1.getD y5.1.toNat Z;let v5:=CA.fn ([x0,v3,[v4]],());cond (decide (y5.1<v2.1.length)) ((0≤y5.1∧y5.1<v2.1.length)∧(0≤y3.1∧y3.1≤x1.length)∧CA.pre ([x0,v3,[v4]],())∧((y5.2.length+List.length [v5])*24≤140737488355328∧y5.2.length+List.length [v5]≤9223372036854775807)∧AD .i64 (y5.1+1)∧R5 ( y5.1+1,y5.2++[v5])) (AD .i64 (y3.1+1)∧R3 ( y3.1+1,y5.2))) (0,y3.2))) (Q (y3.2,0))) (0,([]:List (List G)))))
def DZ.wp(x0:Int×List (List G))(x1:Int×List (List G))(Q:(Int×List (List G))×Int→Prop):Prop:=let v0:=Dc.fn (x0,(x1,()));let v1:=List.length ((Be.fn (x1,())).1).2;cond (v0 !=0) (Q ((0,([]:List (List G))),v0)) (( !(Be.fn (x0,())).2 !=0=true→!(Be.fn (x0,())).2 !=0=true∧True)∧(((Be.fn (x0,())).2 !=0)=false→(!(Be.fn (x0,())).2 !=0)=true)∧cond ((Be.fn (x0,())).2 !=0||(Be.fn (x1,())).2 !=0) (Q ((0,([]:List (List G))),3)) (Lp (σ:=Int×Int×Int×List (List G)×Int) (λy3 R3=>let v3:=List.getD ((Be.fn (x1,())).1).2 y3.1.toNat ([]:List G);cond (decide (y3.1<((v1:Nat):Int))) ((0≤y3.1∧y3.1<((v1:Nat):Int))∧Lp (σ:=Int×List (List G)×(ByteArray→Option Bool)) (λy5 R5=>let v2:=y3.2.2.2.1.getD y5.1.toNat ([]:List G);let v4:=Cg.fn (v2,(v3,()));cond (decide (y5.1<y3.2.2.2.1.length)) ((0≤y5.1∧y5.1<y3.2.2.2.1.length)∧Cg.pre (v2,(v3,()))∧cond (v4.2 !=0) (( ! 0 !=0=true→! 0 !=0=true∧True)∧((0 !=0)=false→! 0 !=0=true)∧cond ( 0 !=0||v4.2 !=0) (Q ((0,([]:List (List G))),3)) (AD .i64 (y3.1+1)∧R3 ( y3.1+1,(0,(x0.1,(y5.2.1,v4.2)))))) (Lp (σ:=Int×List (List G)×(ByteArray→Option Bool)) (λy7 R7=>let v5:=v4.1.getD y7.1.toNat ([]:List G);let v6:=Bc.fn ((AP.fn (v5,())).1,());let v8:=[(AP.fn (v5,())).1];cond (decide (y7.1<v4.1.length)) ((0≤y7.1∧y7.1<v4.1.length)∧AP.pre (v5,())∧cond (((AP.fn (v5,())).2).2 !=0) (cond (((AP.fn (v5,())).2).2 !=0) (((!((AP.fn (v5,())).2).2 !=0)=true→!((AP.fn (v5,())).2).2 !=0=true∧True)∧((((AP.fn (v5,())).2).2 !=0)=false→!((AP.fn (v5,())).2).2 !=0=true)∧cond (((AP.fn (v5,())).2).2 !=0||y3.2.2.2.2 !=0) (Q ((0,([]:List (List G))),3)) (AD .i64 (y3.1+1)∧R3 ( y3.1+1,(((AP.fn (v5,())).2).2,(0,(([]:List (List G)),y3.2.2.2.2)))))) (( ! 0 !=0=true→(! 0 !=0)=true∧True)∧((0 !=0)=false→! 0 !=0=true)∧cond ( 0 !=0||y3.2.2.2.2 !=0) (Q ((0,([]:List (List G))),3)) (AD .i64 (y3.1+1)∧R3 ( y3.1+1,(0,(x0.1,(([]:List (List G)),y3.2.2.2.2))))))) (((!((AP.fn (v5,())).2).1)=true→(!((AP.fn (v5,())).2).1)=true∧Bc.pre ((AP.fn (v5,())).1,()))∧((!((AP.fn (v5,())).2).1)=true→(!((AP.fn (v5,())).2).1)=true∧(!((AP.fn (v5,())).2).1)=true∧True)∧(((AP.fn (v5,())).2).1=false→(!((AP.fn (v5,())).2).1)=true)∧cond (((AP.fn (v5,())).2).1||Option.getD (y7.2.2 v6) false) (AD .i64 (y7.1+1)∧R7 ( y7.1+1,y7.2)) (Bc.pre ((AP.fn (v5,())).1,())∧((y7.2.1.length+v8.length)*24≤140737488355328∧y7.2.1.length+v8.length≤9223372036854775807)∧cond (decide (400<(( List.length (y7.2.1++v8):Nat):Int))) (((! 3 !=0)=true→! 3 !=0=true∧True)∧((3 !=0)=false→(! 3 !=0)=true)∧Q ((0,([]:List (List G))),3)) (AD .i64 (y7.1+1)∧R7 ( y7.1+1,( y7.2.1++v8,Bm y7.2.2 v6 true)))))) (AD .i64 (y5.1+1)∧R5 ( y5.1+1,y7.2))) (0,y5.2))) (((! 0 !=0)=true→! 0 !=0=true∧True)∧((0 !=0)=false→! 0 !=0=true)∧cond ( 0 !=0||y3.2.2.2.2 !=0) (Q ((0,([]:List (List G))),3)) (AD .i64 (y3.1+1)∧R3 ( y3.1+1,(0,(x0.1,(y5.2.1,y3.2.2.2.2))))))) (0,(([]:List (List G)),λ(a5:ByteArray)=>(none:Option Bool)))) (Q ((y3.2.2.1,y3.2.2.2.1),0))) (0,((Be.fn (x0,())).2,(((Be.fn (x0,())).1).1,(((Be.fn (x0,())).1).2,0))))))
def C0.wp(x0:List (List G))(x1:( List G→Prop)×( List G→Bool))(Q:Int→Prop):Prop:=Lp (σ:=Int) (λy3 R3=>let v0:=x0.getD y3.toNat ([]:List G);cond (decide (y3<x0.length)) ((0≤y3∧y3<x0.length)∧x1.1 v0∧cond (x1.2 v0) (Q y3) (AD .i64 (y3+1)∧R3 (y3+1))) (Q (-1))) 0
def DD.wp(x0:List (List G))(x1:( List G→Prop)×( List G→Bool))(Q:Bool→Prop):Prop:=C0.pre (x0,((λ(a3:List G)=>x1.1 a3,λ(a3:List G)=>x1.2 a3),()))∧Q (decide (0≤C0.fn (x0,((λ(a3:List G)=>x1.1 a3,λ(a3:List G)=>x1.2 a3),()))))
def DR.wp(x0:List Int)(x1:List Int)(Q:Int×Int→Prop):Prop:=cond (x0.length !=(x1.length:Int)) (Q (0,2)) (cond (decide (12<(x0.length:Int))) (Q (0,3)) (Lp (σ:=Int×Int) (λy3 R3=>let v0:=x0.getD y3.1.toNat 0;let v1:=x1.getD y3.1.toNat 0;cond (decide (y3.1<x0.length)) ((0≤y3.1∧y3.1<x0.length)∧((! ! A5.fn (v0,()))=true→(! ! A5.fn (v0,()))=true∧(! ! A5.fn (v0,()))=true∧0≤y3.1∧y3.1<x1.length)∧((! ! A5.fn (v0,()))=true→(! ! A5.fn (v0,()))=true∧True)∧((! ! A5.fn (v0,()))=true→(! ! A5.fn (v0,()))=true∧True)∧((! A5.fn (v0,()))=false→(! ! A5.fn (v0,()))=true)∧((!( ! A5.fn (v0,())||decide (v1< -4294967296)))=true→(!( ! A5.fn (v0,())||decide (v1< -4294967296)))=true∧(!( ! A5.fn (v0,())||decide (v1< -4294967296)))=true∧0≤y3.1∧y3.1<x1.length)∧((!( ! A5.fn (v0,())||decide (v1< -4294967296)))=true→(!( ! A5.fn (v0,())||decide (v1< -4294967296)))=true∧True)∧((!( ! A5.fn (v0,())||decide (v1< -4294967296)))=true→(!( ! A5.fn (v0,())||decide (v1< -4294967296)))=true∧True)∧(( ! A5.fn (v0,())||decide (v1< -4294967296))=false→(!( ! A5.fn (v0,())||decide (v1< -4294967296)))=true)∧cond ( ! A5.fn (v0,())||decide (v1< -4294967296)||decide (4294967296<v1)) (Q (0,6)) ((0≤y3.1∧y3.1<x0.length)∧(0≤y3.1∧y3.1<x1.length)∧AD .i64 (v0*v1)∧AD .i64 (y3.2+v0*v1)∧AD .i64 (y3.1+1)∧R3 ( y3.1+1,y3.2+v0*v1))) (Q (y3.2,0))) (0,0)))
def DQ.wp(x0:BH)(x1:List Int)(Q:Int×Int→Prop):Prop:=let v0:=DR.fn (x0.1,(x1,()));cond (! CI.fn (x0,())) (Q (0,1)) (cond (v0.2 !=0) (Q (0,v0.2)) (AD .i64 (x0.2+v0.1)∧Q ( x0.2+v0.1,0)))
def Dg.wp(x0:G)(x1:List Int)(Q:Bool×Int→Prop):Prop:=let v0:=DQ.fn (x0.2.2,(x1,()));cond (! Ay.fn (x0,())) (Q (false,1)) (cond (v0.2 !=0) (Q (false,v0.2)) (cond (x0.1==0) (Q (decide (0≤v0.1),0)) (cond (x0.1==1) (Q ( v0.1==0,0)) (x0.2.1≠0∧Q ( Int.tmod v0.1 x0.2.1==0,0)))))
def D4.wp(x0:G)(x1:List Int)(Q:Bool→Prop):Prop:=Q !(Dg.fn (x0,(x1,()))).1
def D3.wp(x0:List G)(x1:List Int)(Q:Bool→Prop):Prop:=CN.pre (x0,((λ(a3:G)=>True,λ(a3:G)=>D4.fn (a3,(x1,()))),()))∧Q ! CN.fn (x0,((λ(a3:G)=>True,λ(a3:G)=>D4.fn (a3,(x1,()))),()))
def DY.wp(x0:Int×List (List G))(x1:List Int)(Q:Bool×Int→Prop):Prop:=cond (! Ap.fn (x0,())) (Q (false,1)) (cond (x1.length !=x0.1) (Q (false,2)) (Lp (σ:=Int) (λy3 R3=>let v0:=x1.getD y3.toNat 0;cond (decide (y3<x1.length)) ((0≤y3∧y3<x1.length)∧((! decide (v0< -4294967296))=true→(! decide (v0< -4294967296))=true∧True)∧(decide (v0< -4294967296)=false→(! decide (v0< -4294967296))=true)∧cond (decide (v0< -4294967296)||decide (4294967296<v0)) (Q (false,6)) (AD .i64 (y3+1)∧R3 (y3+1))) (DD.pre (x0.2,((λ(a5:List G)=>True,λ(a5:List G)=>D3.fn (a5,(x1,()))),()))∧Q ( DD.fn (x0.2,((λ(a5:List G)=>True,λ(a5:List G)=>D3.fn (a5,(x1,()))),())),0))) 0))
theorem bK{P:G→Prop}(GX:∀d c,P d→P c→P (Hg d c.2.2.2))(heq:∀c,c.1=0→P c→P (BD (1,0,c.2.2)).1){p:List G}(hb:Bq p)(h:∀d∈Cw p,P d):∀d∈(A0 p).1,P d:=by
 rw[Iw];split;·simp
 ·rcases Ik ((Ec (Dl (Cw p))).bind Ed)with ho|⟨out,ho⟩;·rw[ho];simp
  ·rw[ho];simp only;split;·simp
   ·obtain⟨o1,h1,h2⟩:=Option.bind_eq_some_iff.1 ho;have k3:K3 out:=by have :=aH (UY (Tz (Uh hb)) h1) h2;exact λc hc=>(this.2 c hc).k3
    intro d hd;rw[Uz k3]at hd;exact aI (Zk heq (T1 GX h) h1) h2 d hd
theorem VC(p:List G):(A0 p).2.2=0∨(A0 p).2.2=3∧(A0 p).2.1=false:=by
 rw[Iw];split;·exact .inl rfl
 ·split;·exact .inl rfl
  ·split;·exact .inr ⟨rfl,rfl⟩
   ·exact .inl rfl
theorem VD(p:List G):(A0 p).1.length≤96:=by
 rw[Iw];split;·simp
 ·split;·simp
  ·split;·simp
   ·rename_i h;simp only[Bool.or_eq_true,gJ,fJ]at h;simp only;omega
theorem IG{n:Int}:BF n=true↔-1048576≤n∧n≤1048576:=by simp[BF]
theorem bN{k m K K':Int}{C:List Int}(h:AG (k,m,C,K)=true)(hK:BF K'=true):AG (k,m,C,K')=true:=by
 have key:Az (C,K)=true→Az (C,K')=true:=by intro h;simp only[Az,eP]at h⊢;exact⟨h.1,h.2.1,hK⟩
 simp only[AG]at*;split at h;·rename_i h0;rw[dO h0];simp only[eP]at h⊢;exact⟨h.1,key h.2⟩
 ·rename_i h0;rw[dK h0];split at h;·rename_i h1;rw[dO h1];simp only[eP]at h⊢;exact⟨h.1,key h.2⟩
  ·cases h
theorem ZV{d c:G}(hd:AG d=true)(hc:AG c=true):AG (Hg d c.2.2.2)=true:=by have h1:=(Az.b (AG.lin hc)).2.2;have h2:=(Az.b (AG.lin hd)).2.2;exact bN hd (IG.2 (by omega))
theorem WW:AG Z=true:=by decide
theorem T6{C:List Int}{K:Int}(h1:C.length≤12)(h2:∀n∈C,BF n=true)(h3:BF K=true):Az (C,K)=true:=by simp only[Az,eP,gT,gJ];exact⟨h2,by omega,h3⟩
theorem bO{C:List Int}{K:Int}(h:Az (C,K)=true):AG (1,0,C,K)=true:=by simp[AG,h]
theorem XA{c:G}(h:Az c.2.2=true):AG (BD (1,0,c.2.2)).1=true:=by
 simp only[BD,show(1:Int)≠0 by decide,hP,gK];unfold Fl;split;·unfold GB;exact WW
 ·obtain⟨h1,h2,h3⟩:=Az.b h;have key:∀n g:Int,-1048576≤n∧n≤1048576→BF (n.tdiv g)=true:=λn g hn=>by have :=MB n g;rw[IG];omega
  refine bO (T6 (by simpa using h1) (λn hn=>?_) (key _ _ h3));obtain⟨m,hm,rfl⟩:=List.mem_map.1 hn;exact key _ _ (h2 m hm)
theorem bL{p:List G}(h:(Cw p).any (λc=>!AG c)=true):(A0 p).1=[]:=by
 rw[Iw];split;·rfl
 ·rcases Ik ((Ec (Dl (Cw p))).bind Ed)with ho|⟨out,ho⟩;·rw[ho]
  ·rw[ho];simp only[h,iV,hP]
theorem VE{p:List G}(hb:Bq p):∀d∈(A0 p).1,AG d=true:=by
 by_cases h:(Cw p).any (λc=>!AG c)=true;·rw[bL h];simp
 ·refine bK (P:=λd=>AG d=true) (λd c=>ZV) (λc _ hc=>XA (AG.lin hc)) hb λd hd=>?_;cases hc:AG d with|true=>rfl|false=>exact absurd (List.any_eq_true.2 ⟨d,hd,by rw[hc];rfl⟩) h
theorem bM{p:List G}(hb:Bq p):Ch (A0 p).1:=⟨by have :=VD p;omega,VE hb⟩
theorem Ch.B{p:List G}(h:Ch p):Bq p:=⟨by have :=h.1;omega,λc hc=>AG.condB (h.2 c hc)⟩
theorem Ch.name{p:List G}(h:Ch p):UM p:=by
 refine⟨by have :=h.1;omega,λc hc=>?_⟩;have hv:=h.2 c hc;obtain⟨h1,h2,h3⟩:=Az.b (AG.lin hv);refine⟨by omega,λn hn=>by have :=h2 n hn;omega,λn hn=>?_⟩;have hk:=AG.kind hv;simp only[eA,kH,or_false]at hn;rcases hn with rfl|rfl|rfl;·omega
 ·omega
 ·omega
theorem Ns{α:Type}:∀(l:List (List α))(i:Nat),(l.take i).flatten.length≤l.flatten.length|[],i=>by simp|x::l,0=>by simp|x::l,i+1=>by have :=Ns l i;simp only[jQ,gR,dW];omega
theorem LM{α:Type}{l:List (List α)}{i:Nat}(h:i<l.length):(l.take (i+1)).flatten=(l.take i).flatten++l.getD i []:=by rw[DE [] h];simp
theorem CA.spec(l:List (List G))(hp:CA.pre (l,())):CA.wp l λr=>r=CA.fn (l,()):=by
 obtain⟨hl,ht⟩:=hp;simp only at hl ht;have hfn:CA.fn (l,())=l.flatten:=rfl;simp only[CA.wp,hfn];refine Lp.iter l.length (λi y=>y=((i:Int),(((l.take i).flatten.length:Nat):Int))) rfl ?_;rintro i y hle rfl R hR;by_cases e:i<l.length;·have h1:=Ns l (i+1);rw[LM e,dW]at h1;simp only[dL (show(i:Int)<(l.length:Int)by omega),dP,dV,dR (show¬(((l.take i).flatten.length:Nat):Int)+((l.getD i []).length:Int)<0 by omega),dN];refine⟨⟨by omega,by omega⟩,⟨by omega,by omega⟩,⟨by omega,by omega⟩,hR e _ ?_⟩;rw[LM e,dW];rfl
 ·have :i=l.length:=by omega
  subst this;clear hR hle;have Sg:∀{body:Int×List G→(Int×List G→Prop)→Prop},(∀i R,i<l.length→AD .i64 ((i:Int)+1)→R ((i:Int)+1,(l.take i).flatten++l.getD i [])→body ((i:Int),(l.take i).flatten) R)→(∀R,body ((l.length:Int),l.flatten) R)→Lp body (0,[]):=by
   intro body GU Sd;refine Lp.iter l.length (λi y=>y=((i:Int),(l.take i).flatten)) (by simp) ?_;rintro i y hle rfl R hR;by_cases e:i<l.length;·refine GU i R e ⟨by omega,by omega⟩ ?_;rw[←LM e];exact hR e _ rfl
   ·have :i=l.length:=by omega
    subst this;rw[eD];exact Sd R
  simp only[eD,eB,eK,dN,dR (show¬((l.flatten.length:Nat):Int)<0 by omega),Int.sub_zero,Int.sub_self];refine⟨⟨by omega,by omega⟩,⟨by omega,by omega⟩,?_⟩;have GU:∀i,i<l.length→(((l.take i).flatten.length+(l.getD i []).length)*48≤140737488355328∧(l.take i).flatten.length+(l.getD i []).length≤9223372036854775807)∧0≤(i:Int)∧(i:Int)<(l.length:Int):=λi hi=>by have h1:=Ns l (i+1);rw[LM hi,dW]at h1;omega
  by_cases h0:0<l.flatten.length
  ·simp only[dL (show(0:Int)<(l.flatten.length:Int)by omega),dV];refine⟨⟨by omega,by omega⟩,⟨by omega,by omega,by omega⟩,⟨by omega,by omega⟩,Sg (λi R hi hf hR=>?_) λR=>?_⟩;·simp only[dL (show(i:Int)<(l.length:Int)by omega),dP,dV];exact⟨(GU i hi).2,(GU i hi).1,hf,hR⟩
   ·simp only[eB,eK,dN]
  ·simp only[dR (show¬(0:Int)<(l.flatten.length:Int)by omega),dN];refine Sg (λi R hi hf hR=>?_) λR=>?_;·simp only[dL (show(i:Int)<(l.length:Int)by omega),dP,dV];exact⟨(GU i hi).2,(GU i hi).1,hf,hR⟩
   ·simp only[eB,eK,dN]
theorem JV{α τ:Type}{f:τ→α→Option τ}{l:List α}{d:α}{i:Nat}{a t:τ}(h:(l.take i).foldlM f a=some t)(hi:i<l.length):(l.take (i+1)).foldlM f a=f t (l.getD i d):=by rw[DE d hi,gX,h];show(f _ _).bind _=_;cases f t (l.getD i d)<;>rfl
theorem Nu{α τ:Type}{f:τ→α→Option τ}{l:List α}{d:α}{i:Nat}{a t:τ}(h:(l.take i).foldlM f a=some t)(hi:i<l.length)(hn:f t (l.getD i d)=none):l.foldlM f a=none:=by rw[←gD (i+1) l,gX,JV (d:=d) h hi,hn];rfl
def D5(out:List (List G))(m:ByteArray→Option Bool):Prop:=∀q,m (BM (Bn q))=if q∈out then some true else none
theorem D5.nil:D5 [] λ_=>none:=λq=>by simp
theorem D5.put{out:List (List G)}{m:ByteArray→Option Bool}(h:D5 out m)(p:List G):D5 (out++[p]) (Bm m (BM (Bn p)) true):=by
 intro q;simp only[Bm,Za,fC,eN];by_cases e:q=p;·rw[dO e,dO (.inr e)]
 ·rw[dK e,h q];by_cases e2:q∈out;·rw[dO e2,dO (.inl e2)]
  ·rw[dK e2,dK λh=>h.elim e2 e]
theorem VB{p:List G}{out:List (List G)}{m:ByteArray→Option Bool}{EA K1 EB K2:Prop}(hp:Bq p)(hk:D5 out m)(hl:out.length≤400)(hA:(A0 p).2.2=3→Bz out p=none→EA)(h1:Bz out p=some out→K1)(hB:Bz out p=none→EB)(h2:Bz out p=some (out++[(A0 p).1])→K2):AP.pre (p,())∧cond (((AP.fn (p,())).2).2 !=(0:Int)) EA (((!((AP.fn (p,())).2).1)=true→(!((AP.fn (p,())).2).1)=true∧Bc.pre ((AP.fn (p,())).1,()))∧((!((AP.fn (p,())).2).1)=true→(!((AP.fn (p,())).2).1)=true∧(!((AP.fn (p,())).2).1)=true∧True)∧(((AP.fn (p,())).2).1=false→(!((AP.fn (p,())).2).1)=true)∧cond (((AP.fn (p,())).2).1||Option.getD (m (Bc.fn ((AP.fn (p,())).1,()))) false) K1 (Bc.pre ((AP.fn (p,())).1,())∧((List.length out+List.length [(AP.fn (p,())).1])*24≤140737488355328∧List.length out+List.length [(AP.fn (p,())).1]≤9223372036854775807)∧cond (decide ((400:Int)<(( List.length (out++[(AP.fn (p,())).1]):Nat):Int))) EB K2)):=by
 have hn:Bc.pre ((A0 p).1,()):=(bM hp).name;refine⟨hp,?_⟩;simp only[AP.fn,Bc.fn];by_cases he:(A0 p).2.2=0
 ·simp only[he,eI,dN];have hs:Bz out p=if(A0 p).2.1=true∨(A0 p).1∈out then some out else if 400<out.length+1 then none else some (out++[(A0 p).1]):=by unfold Bz;exact dK λh=>h he
  refine⟨λh=>⟨h,hn⟩,λh=>⟨h,h,trivial⟩,λh=>by rw[h];rfl,?_⟩;have hb:((A0 p).2.1||(m (BM (Bn (A0 p).1))).getD false)=decide ((A0 p).2.1=true∨(A0 p).1∈out):=by
   rw[hk];by_cases e:(A0 p).1∈out;·rw[dO e];simp[e]
   ·rw[dK e];simp[e]
  rw[hb];by_cases e:(A0 p).2.1=true∨(A0 p).1∈out;·rw[dL e];exact h1 (hs.trans (dO e))
  ·rw[dR e];rw[dK e]at hs;refine⟨hn,⟨by simp;omega,by simp;omega⟩,?_⟩;by_cases e2:400<out.length+1;·rw[dL (show(400:Int)<((out++[(A0 p).1]).length:Int)by simp;omega)];exact hB (hs.trans (dO e2))
   ·rw[dR (show¬(400:Int)<((out++[(A0 p).1]).length:Int)by simp;omega)];exact h2 (hs.trans (dK e2))
 ·rw[bne_iff_ne.2 he];exact hA ((VC p).resolve_left he).1 (dO he)
theorem VA{out out':List (List G)}{p:List G}(h:Bz out p=some out')(hl:out.length≤400):out'.length≤400:=by
 unfold Bz at h;split at h;·cases h
 ·split at h;·cases h;exact hl
  ·split at h;·cases h
   ·cases h;simp;omega
theorem U9:∀{l:List (List G)}{out out':List (List G)},l.foldlM Bz out=some out'→out.length≤400→out'.length≤400|[],out,out',h,hl=>by cases h;exact hl|p::l,out,out',h,hl=>by simp only[fF,fA,eV]at h;obtain⟨s,h1,h2⟩:=h;exact U9 h2 (VA h1 hl)
theorem Lp.tid{body:Int×List (List G)×(ByteArray→Option Bool)→(Int×List (List G)×(ByteArray→Option Bool)→Prop)→Prop}(l a:List (List G))(m0:ByteArray→Option Bool)(ha:D5 a m0)(hal:a.length≤400)(hl:l.length≤1048576*4)(h:∀(i:Nat)out m R,i<l.length→(i:Int)<(l.length:Int)→AD .i64 ((i:Int)+1)→D5 out m→out.length≤400→(Bz out (l.getD i [])=some out→R ((i:Int)+1,out,m))→(Bz out (l.getD i [])=some (out++[(A0 (l.getD i [])).1])→R ((i:Int)+1,out++[(A0 (l.getD i [])).1],Bm m (BM (Bn (A0 (l.getD i [])).1)) true))→(Bz out (l.getD i [])=none→l.foldlM Bz a=none)→body ((i:Int),out,m) R)(h2:∀out m R,l.foldlM Bz a=some out→D5 out m→out.length≤400→body ((l.length:Int),out,m) R):Lp body (0,a,m0):=by
 refine Lp.iter l.length (λi y=>y.1=(i:Int)∧(l.take i).foldlM Bz a=some y.2.1∧D5 y.2.1 y.2.2) ⟨rfl,rfl,ha⟩ ?_;rintro i⟨y,out,m⟩hle⟨hy,ht,hm⟩R hR;simp only at hy ht hm;subst hy;have hlen:=U9 ht hal;by_cases e:i<l.length
 ·refine h i out m R e (by omega) ⟨by omega,by omega⟩ hm hlen (λhs=>hR e _ ⟨rfl,?_,hm⟩) (λhs=>hR e _ ⟨rfl,?_,hm.put _⟩) λhn=>Nu ht e hn;·rw[JV (d:=[]) ht e,hs]
  ·rw[JV (d:=[]) ht e,hs]
 ·have :i=l.length:=by omega
  subst this;rw[eD]at ht;exact h2 out m R ht hm hlen
theorem Ar.b{s:Ag}(h:Ar s=true):0≤s.1∧s.1≤12∧s.2.length≤400∧∀p∈s.2,p.length≤96∧∀c∈p,AG c=true∧(c.2.2.1.length:Int)=s.1:=by simp only[Ar,eP,gJ,gT,F4,beq_iff_eq]at h;obtain⟨⟨⟨h1,h2⟩,h3⟩,h4⟩:=h;refine⟨h1,h2,by omega,λp hp=>?_⟩;obtain⟨h5,h6⟩:=h4 p hp;exact⟨by omega,h6⟩
theorem Ar.piece{s:Ag}(h:Ar s=true){p:List G}(hp:p∈s.2):p.length≤96∧∀c∈p,AG c=true:=by obtain⟨h1,h2⟩:=(Ar.b h).2.2.2 p hp;exact⟨h1,λc hc=>(h2 c hc).1⟩
theorem Ar.B{s:Ag}(h:Ar s=true){p:List G}(hp:p∈s.2):Bq p:=by obtain⟨h1,h2⟩:=Ar.piece h hp;exact⟨by omega,λc hc=>AG.condB (h2 c hc)⟩
theorem Be.spec(x:Ag):Be.wp x λr=>r=Be.fn (x,()):=by have hfn:Be.fn (x,())=B6 x:=rfl;simp only[Be.wp,Ap.fn,hfn];cases hv:Ar x with|false=>simp[B6,hv]|true=>
 have hn:B6 x=KL x.1 (x.2.foldlM Bz []):=by simp[B6,hv,P9]
 simp only[fY,dN,hn];refine Lp.tid x.2 [] _ D5.nil (by simp) (by have :=(Ar.b hv).2.2.1;omega) ?_ ?_
 ·intro i out m R e e2 hf hk hl h1 h2 h3;simp only[dL e2,dP,dV];refine⟨⟨by omega,by omega⟩,VB (Ar.B hv (BQ e)) hk hl (λh4 hn=>?_) (λhs=>⟨hf,h1 hs⟩) (λhn=>?_) λhs=>⟨hf,h2 hs⟩⟩;·simp only[AP.fn,h4,show((3:Int)!=0)=true from rfl,dV];rw[h3 hn];rfl
  ·rw[h3 hn];rfl
 ·intro out m R ht hk hl;simp only[eB,eK,dN];rw[ht];rfl
theorem ZQ{c:G}(h1:(Dm c).2.2=0)(h2:(Dm c).2.1=0):AG (Dm c).1=true:=by
 unfold Dm at*;split at h1;·cases h1
 ·rename_i h;rw[dK h]at h2⊢;simp only at h2;cases hv:AG (BD c).1 with|true=>rfl|false=>exact absurd ⟨h2,hv⟩ h
theorem cC{n:Nat}(h:n≤12):AG (0,0,List.replicate n 0,0)=true:=by have :Az (List.replicate n 0,0)=true:=T6 (by simpa using h) λm hm=>by rw[(List.mem_replicate.1 hm).2];decide (by decide);simp[AG,this]
theorem UN{n:Nat}(hn:n≤12):∀{l out out':List G},l.foldlM (F3 n) out=some out'→(∀d∈out,AG d=true)→∀d∈out',AG d=true
 |[],out,out',h,h1=>by cases h;exact h1|c::l,out,out',h,h1=>by
  simp only[fF,fA,eV]at h;obtain⟨s,h2,h3⟩:=h;refine UN hn h3 ?_;have key:∀x,AG x=true→∀d∈out++[x],AG d=true:=λx hx d hd=>by
   rcases List.mem_append.1 hd with hd|hd;·exact h1 d hd
   ·simp only[eN]at hd;subst hd;exact hx
  unfold F3 at h2;split at h2;·cases h2
  ·rename_i he;split at h2;·cases h2;exact key _ (cC hn)
   ·split at h2;·cases h2;exact h1
    ·cases h2;exact key _ (ZQ (by omega) (by omega))
theorem PI{c:G}(hv:AG c=true):((Dn c).2=0∨(Dn c).2=3)∧(Dn c).1.length≤400∧∀d∈(Dn c).1,AG d=true:=by
 unfold Dn;rw[dK (by rw[hv];simp)];rcases Ik ((Eb c).foldlM (F3 c.2.2.1.length) [])with h|⟨out,h⟩;·rw[h];simp
 ·rw[h];simp only;split;·simp
  ·rename_i h2;exact⟨.inl rfl,by simp only;omega,UN (Az.b (AG.lin hv)).1 h (by simp)⟩
theorem WV{a b:List G}(hb:Ch b){out out':List (List G)}{i:Nat}(hi:i<b.length)(h:FC a b out i=some out'):out'.length≤out.length+400:=by
 have :=(PI (hb.2 _ (BQ (d:=Z) hi))).2.1;unfold FC at h;split at h;·cases h
 ·cases h;simp only[dW,fB];omega
theorem NE{a b:List G}(hb:Ch b):∀{l:List Nat}{out out':List (List G)},(∀i∈l,i<b.length)→l.foldlM (FC a b) out=some out'→out'.length≤out.length+400*l.length|[],out,out',_,h=>by cases h;simp|i::l,out,out',hl,h=>by simp only[fF,fA,eV]at h;obtain⟨s,h1,h2⟩:=h;have :=WV hb (hl i (by simp)) h1;have :=NE hb (λj hj=>hl j (by simp[hj])) h2;simp only[dX];omega
theorem RW{a b:List G}(ha:Ch a)(hb:Ch b):∀{l:List Nat}{out out':List (List G)},(∀i∈l,i<b.length)→l.foldlM (FC a b) out=some out'→(∀p∈out,Bq p)→∀p∈out',Bq p
 |[],out,out',_,h,h3=>by cases h;exact h3|i::l,out,out',hl,h,h3=>by
  simp only[fF,fA,eV]at h;obtain⟨s,h1,h2⟩:=h;refine RW ha hb (λj hj=>hl j (by simp[hj])) h2 ?_;have hn:=(PI (hb.2 _ (BQ (d:=Z) (hl i (by simp))))).2.2;unfold FC at h1;split at h1;·cases h1
  ·cases h1;intro p hp;rcases List.mem_append.1 hp with hp|hp;·exact h3 p hp
   ·obtain⟨o,ho,rfl⟩:=List.mem_map.1 hp;have h4:=ha.1;have h5:=hb.1;refine⟨by simp only[dW,eM,dX,eC];omega,λc hc=>AG.condB ?_⟩;rcases List.mem_append.1 hc with hc|hc;·exact ha.2 c hc
    ·rcases List.mem_append.1 hc with hc|hc;·exact hb.2 c (fX hc)
     ·simp only[eN]at hc;subst hc;exact hn _ ho
theorem RV{a b:List G}(ha:Ch a)(hb:Ch b):(DG a b).1.length≤1048576*4∧∀p∈(DG a b).1,Bq p:=by
 unfold DG;split;·simp
 ·split;·exact⟨by simp,λp hp=>by simp only[eN]at hp;subst hp;exact ha.B⟩
  ·rcases Ik ((List.range b.length).foldlM (FC a b) [])with h|⟨out,h⟩;·rw[h];simp
   ·rw[h];have h1:=NE hb (λi hi=>List.mem_range.1 hi) h;have h2:=hb.1;simp only[eC,iZ]at h1;exact⟨by simp only;omega,RW ha hb (λi hi=>List.mem_range.1 hi) h (by simp)⟩
theorem Z2{n i:Nat}(h:i<n):(List.range n).getD i 0=i:=by rw[B2 (by simpa using h)];simp
theorem Cg.spec(a b:List G)(hp:Cg.pre (a,b,())):Cg.wp a b λr=>r=Cg.fn (a,b,()):=by
 obtain⟨ha,hb⟩:Ch a∧Ch b:=hp;have hal:=ha.1;have Xt:=hb.1;have hfn:Cg.fn (a,b,())=DG a b:=rfl;have Sb:Bq (a++b):=⟨by simp only[dW];omega,λc hc=>(List.mem_append.1 hc).elim (λh=>AG.condB (ha.2 c h)) λh=>AG.condB (hb.2 c h)⟩;simp only[Cg.wp,hfn,CA.fn,AP.fn,gR,kF,gZ];refine⟨⟨by simp,by simp only[gR,kF,gZ];exact Sb.1⟩,Sb,?_⟩;by_cases h0:(A0 (a++b)).2.2=0
 ·simp only[h0,eI,dN];by_cases h1:(A0 (a++b)).2.1=true;·simp only[h1,dV];simp[DG,h0,h1]
  ·rw[jD]at h1;simp only[h1,dN];have FK:DG a b=match(List.range b.length).foldlM (FC a b) []with|none=>([],3)|some out=>(out,0):=by unfold DG;exact(dK λh=>h h0).trans (dK (by rw[h1];simp))
   have Ib:(List.range b.length).length=b.length:=by simp
   refine Lp.foldO (List.range b.length) 0 (FC a b) [] (by omega) ?_ ?_
   ·intro i out R e e2 hf ht A9 Bk;rw[Ib]at e e2;have GY:=NE hb (λj hj=>by have :=fX hj;simpa using this) ht;simp only[eC,eM,Ib]at GY;simp only[Z2 e,FC]at A9 Bk;simp only[dL e2,dP,dV,DF.fn];have S4:=PI (hb.2 _ (BQ (d:=Z) e));refine⟨⟨by omega,by omega⟩,?_⟩;by_cases hn:(Dn (b.getD i Z)).2=0
    ·simp only[hn,eI,dN];rw[dK λh=>h hn]at A9;have h4:=S4.2.1;refine Lp.iter (Dn (b.getD i Z)).1.length (λj y=>y=((j:Int),out++((Dn (b.getD i Z)).1.take j).map λo=>a++(b.take i++[o]))) (by simp) ?_;rintro j y FM rfl R' hR';by_cases e3:j<(Dn (b.getD i Z)).1.length
     ·simp only[dL (show(j:Int)<((Dn (b.getD i Z)).1.length:Int)by omega),dP,dV];refine⟨⟨by omega,by omega⟩,⟨by omega,by omega⟩,⟨by simp,?_⟩,⟨?_,?_⟩,⟨by omega,by omega⟩,hR' e3 _ ?_⟩;·simp only[gR,kF,gZ,dW,eM,dX,eC];omega
      ·simp only[dW,fB,eM,dX,eC];omega
      ·simp only[dW,fB,eM,dX,eC];omega
      ·rw[DE Z e3,iU];exact eR (Prod.mk ((j:Int)+1)) (gA _ _ _)
     ·have :j=(Dn (b.getD i Z)).1.length:=by omega
      subst this;simp only[eB,eK,dN,eD];exact⟨hf,A9 _ rfl⟩
    ·simp only[bne_iff_ne.2 hn,dV];rw[FK,Bk (dO hn),S4.1.resolve_left hn]
   ·intro out R ht;rw[Ib];simp only[eB,eK,dN];rw[FK,ht]
 ·simp only[bne_iff_ne.2 h0,dV];rw[((VC _).resolve_left h0).1];simp[DG,h0]
def PP(l:List (List G)):Prop:=l.length≤400∧∀p∈l,p.length≤96∧∀c∈p,AG c=true
theorem PP.v{l:List (List G)}(h:PP l){p:List G}(hp:p∈l):Ch p:=⟨by have :=(h.2 p hp).1;omega,(h.2 p hp).2⟩
theorem PP.nil:PP []:=⟨by simp,by simp⟩
theorem bJ{out out':List (List G)}{p:List G}(h:Bz out p=some out')(hl:PP out)(hp:Bq p):PP out':=by
 refine⟨VA h hl.1,?_⟩;unfold Bz at h;split at h;·cases h
 ·split at h;·cases h;exact hl.2
  ·split at h;·cases h
   ·cases h;intro q hq;rcases List.mem_append.1 hq with hq|hq;·exact hl.2 q hq
    ·simp only[eN]at hq;subst hq;exact⟨VD p,VE hp⟩
theorem QA:∀{l:List (List G)}{out out':List (List G)},l.foldlM Bz out=some out'→PP out→(∀p∈l,Bq p)→PP out'|[],out,out',h,hl,_=>by cases h;exact hl|p::l,out,out',h,hl,hb=>by simp only[fF,fA,eV]at h;obtain⟨s,h1,h2⟩:=h;exact QA h2 (bJ h1 hl (hb p (by simp))) λq hq=>hb q (by simp[hq])
abbrev JG(b:List G)(out:List (List G))(a:List G):Option (List (List G)):=if(DG a b).2≠0 then none else(DG a b).1.foldlM Bz out
theorem NF{b:List G}(hb:Ch b):∀{l out out':List (List G)},l.foldlM (JG b) out=some out'→PP out→(∀p∈l,Ch p)→PP out'
 |[],out,out',h,hl,_=>by cases h;exact hl|p::l,out,out',h,hl,hv=>by
  simp only[fF,fA,eV]at h;obtain⟨s,h1,h2⟩:=h;refine NF hb h2 ?_ λq hq=>hv q (by simp[hq]);unfold JG at h1;split at h1;·cases h1
  ·exact QA h1 hl (RV (hv p (by simp)) hb).2
theorem ZW{cur cur':List (List G)}{b:List G}(h:Ij cur b=some cur')(hb:Ch b)(hc:PP cur):PP cur':=NF hb h PP.nil λp hp=>hc.v hp
theorem UG:∀{l:List (List G)}{cur cur':List (List G)},l.foldlM Ij cur=some cur'→PP cur→(∀p∈l,Ch p)→PP cur'|[],out,out',h,hl,_=>by cases h;exact hl|p::l,out,out',h,hl,hv=>by simp only[fF,fA,eV]at h;obtain⟨s,h1,h2⟩:=h;exact UG h2 (ZW h1 (hv p (by simp)) hl) λq hq=>hv q (by simp[hq])
theorem UR{x:Ag}(h:(B6 x).2=0):PP (B6 x).1.2∧(B6 x).1.1=x.1:=by
 unfold B6 at h⊢;split at h;·cases h
 ·rename_i hv;rw[dK hv];rw[Bool.not_eq_false]at hv;unfold KL at h⊢;rcases Ik (P9 x.2)with ho|⟨out,ho⟩;·rw[ho]at h;cases h
  ·rw[ho];exact⟨QA ho PP.nil λp hp=>Ar.B hv hp,rfl⟩
end Go.Proofs.YtldikbpclaeajaaDoor
