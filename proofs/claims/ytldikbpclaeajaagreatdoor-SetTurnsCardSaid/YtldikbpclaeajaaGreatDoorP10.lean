/- Part of a proof that a law of the program holds for every input: what the functions answer, in plain Lean. No conditions. -/
import Derived.Lib.ItoaLen
import Derived.Test.YtldikbpclaeajaaGreatDoorK09
namespace Go.Proofs.YtldikbpclaeajaaGreatDoor
open Go
set_option linter.defProp false
def yY:=@Int.lt_irrefl
def yZ:=@decide_false
def zJ:=@bne_self_eq_false
def zQ:=@List.foldlM_cons
def zZ:=@List.mem_of_mem_take
def ZAB:=@Option.bind_eq_some_iff
def ZAE:=@Option.bind_eq_bind
def ZAG:=@beq_self_eq_true
def ZAH:=@List.drop_eq_getElem_cons
def ZAP:=@List.all_eq_true
def ZAb:=@List.mem_map
def ZAu:=@Bool.not_false
def ZAv:=@Option.bind_some
def ZAz:=@List.foldlM_append
def ZA9:=@Bool.not_eq_true
def ZBD:=@Bool.or_true
def ZBF:=@List.foldl_append
def ZBG:=@Bool.true_eq_false
def ZBH:=@Int.emod_lt_of_pos
def ZBL:=@Bool.or_false
def ZBS:=@Int.emod_nonneg
def ZBa:=@List.mem_flatMap
def ZBd:=@Bool.true_or
def ZBh:=@List.set_append_right
def ZBj:=@not_true_eq_false
def ZBo:=@List.not_mem_nil
def ZBp:=@Prod.ext
def ZBs:=@List.replicate_zero
def ZBu:=@Bool.true_and
def ZBw:=@Bool.or_eq_true
def ZBy:=@List.mem_filter
def ZBz:=@Option.isSome_some
def ZB0:=@beq_iff_eq
def ZB2:=@Int.mul_le_mul_of_nonneg_left
def ZB3:=@List.take_append_of_le_length
def ZB7:=@Bool.and_false
def ZCE:=@List.map_id
def ZCL:=@List.map_map
def ZCN:=@List.set_cons_zero
def ZCQ:=@Bool.false_and
def ZCU:=@Nat.gcd_zero_left
def ZCW:=@Int.mul_add
def ZCX:=@List.drop_eq_nil_of_le
def ZCY:=@or_false
def ZCc:=@List.singleton_append
def ZCe:=@Decidable.em
def ZCf:=@Int.mul_le_mul_of_nonpos_right
def ZCh:=@Int.tmod_nonneg
def ZCz:=@List.any_cons
def ZC2:=@Int.emod_eq_of_lt
def ZC7:=@List.mem_or_eq_of_mem_set
def ZC8:=@Int.le_of_not_gt
def ZDI:=@List.pairwise_singleton
def ZDJ:=@List.range_succ
def ZDM:=@ne_eq
def ZDN:=@Int.le_ediv_iff_mul_le
def ZDU:=@List.mem_range
def ZDa:=@List.findIdx?_append
def ZDj:=@Int.natAbs_natCast
def ZDl:=@Int.tmod_lt_of_pos
def ZDp:=@Nat.gcd_comm
def ZDq:=@Nat.gcd_zero_right
def ZD2:=@Int.neg_mul
set_option linter.unusedSimpArgs false
set_option linter.unusedVariables false
theorem Lp.iter{σ:Type}{body:σ→(σ→Prop)→Prop}(n:Nat)(I:Nat→σ→Prop){x:σ}(hx:I 0 x)(h:∀i y,i≤n→I i y→∀R:σ→Prop,(i<n→∀y',I (i+1) y'→R y')→body y R):Lp body x:=by
 intro R hR;have key:∀k i y,i+k=n→I i y→R y:=by intro k;induction k with|zero=>exact λi y e hi=>hR _ (h i y (by omega) hi R λAY=>by omega)|succ k ih=>exact λi y e hi=>hR _ (h i y (by omega) hi R λ_ y' hy'=>ih (i+1) y' (by omega) hy')
 exact key n 0 x (by omega) hx
theorem A7{α:Type}{l:List α}{d:α}{i:Nat}(h:i<l.length):l.getD i d=l[i]:=by rw[yT,zK h];rfl
theorem fY{α:Type}{l:List α}{d:α}{p:α→Bool}{i:Nat}(hi:i<l.length)(h:p (l.getD i d)=false):l.all p=false:=by rw[yT,zK hi]at h;rw[List.all_eq_false];exact⟨l[i],ZDB hi,by simpa using h⟩
theorem fZ{α:Type}{l:List α}{d:α}{p:α→Bool}(h:∀j,j<l.length→p (l.getD j d)=true):l.all p=true:=by rw[ZAP];intro x hx;obtain⟨i,hi,rfl⟩:=List.mem_iff_getElem.1 hx;have :=h i hi;rwa[yT,zK hi]at this
theorem Lp.all{α:Type}{body:Int→(Int→Prop)→Prop}(l:List α)(d:α)(p:α→Bool)(hl:l.length≤9223372036854775807)(h:∀(i:Nat)(R:Int→Prop),i<l.length→(i:Int)<(l.length:Int)→AB .i64 ((i:Int)+1)→(p (l.getD i d)=true→R ((i:Int)+1))→(p (l.getD i d)=false→l.all p=false)→body (i:Int) R)(h2:∀R:Int→Prop,l.all p=true→body (l.length:Int) R):Lp body 0:=by
 refine Lp.iter l.length (λi y=>y=(i:Int)∧∀j,j<i→p (l.getD j d)=true) ⟨rfl,λj hj=>absurd hj (by omega)⟩ ?_;rintro i y hle⟨rfl,hi⟩R hR;by_cases e:i<l.length
 ·refine h i R e (by omega) ⟨by omega,by omega⟩ (λhp=>hR e _ ⟨by omega,λj hj=>?_⟩) λhp=>fY e hp;by_cases ej:j=i;·subst ej;exact hp
  ·exact hi j (by omega)
 ·have :i=l.length:=by omega
  subst this;exact h2 R (fZ hi)
theorem Lp.foldl{α τ:Type}{body:Int×τ→(Int×τ→Prop)→Prop}(l:List α)(d:α)(f:τ→α→τ)(a:τ)(hl:l.length≤9223372036854775807)(h:∀(i:Nat)(t:τ)(R:Int×τ→Prop),i<l.length→(i:Int)<(l.length:Int)→AB .i64 ((i:Int)+1)→t=(l.take i).foldl f a→R ((i:Int)+1,f t (l.getD i d))→body ((i:Int),t) R)(h2:∀R:Int×τ→Prop,body ((l.length:Int),l.foldl f a) R):Lp body (0,a):=by
 refine Lp.iter l.length (λi y=>y=((i:Int),(l.take i).foldl f a)) rfl ?_;rintro i y hle rfl R hR;by_cases e:i<l.length
 ·refine h i _ R e (by omega) ⟨by omega,by omega⟩ rfl ?_;refine hR e _ ?_;have :l.take (i+1)=l.take i++[l.getD i d]:=by rw[yT,zK e];simp
  rw[this,ZBF];rfl
 ·have :i=l.length:=by omega
  subst this;rw[zA];exact h2 R
theorem AX{α:Type}{l:List α}{d:α}{i:Nat}(h:i<l.length):l.getD i d∈l:=by rw[A7 h];exact ZDB h
theorem Lp.foldO{α τ:Type}{body:Int×τ→(Int×τ→Prop)→Prop}(l:List α)(d:α)(f:τ→α→Option τ)(a:τ)(hl:l.length≤9223372036854775807)(h:∀(i:Nat)(t:τ)(R:Int×τ→Prop),i<l.length→(i:Int)<(l.length:Int)→AB .i64 ((i:Int)+1)→(l.take i).foldlM f a=some t→(∀t',f t (l.getD i d)=some t'→R ((i:Int)+1,t'))→(f t (l.getD i d)=none→l.foldlM f a=none)→body ((i:Int),t) R)(h2:∀(t:τ)(R:Int×τ→Prop),l.foldlM f a=some t→body ((l.length:Int),t) R):Lp body (0,a):=by
 refine Lp.iter l.length (λi y=>∃t,y=((i:Int),t)∧(l.take i).foldlM f a=some t) ⟨a,rfl,rfl⟩ ?_;rintro i y hle⟨t,rfl,ht⟩R hR;by_cases e:i<l.length
 ·have hs:l.take (i+1)=l.take i++[l.getD i d]:=by rw[yT,zK e];simp
  refine h i t R e (by omega) ⟨by omega,by omega⟩ ht (λt' ht'=>hR e _ ⟨t',rfl,?_⟩) λhn=>?_;·rw[hs,ZAz,ht];show(f t (l.getD i d)).bind _=_;rw[ht'];rfl
  ·have h3:l=l.take i++l.getD i d::l.drop (i+1):=by rw[yT,zK e];simp
   rw[h3,ZAz,ht];simp only[ZAE,ZAv,zQ];have e4:(l.take i++l.getD i d::l.drop (i+1)).getD i d=l.getD i d:=by rw[←h3]
   rw[hn];rfl
 ·have :i=l.length:=by omega
  subst this;rw[zA]at ht;exact h2 t R ht
theorem Lp.fill{α β:Type}{body:Int×List β→(Int×List β→Prop)→Prop}(l:List α)(d:α)(z:β)(f:α→β)(hl:l.length≤9223372036854775807)(h:∀(i:Nat)(out:List β)(R:Int×List β→Prop),i<l.length→(i:Int)<(l.length:Int)→AB .i64 ((i:Int)+1)→out.length=l.length→R ((i:Int)+1,out.set i (f (l.getD i d)))→body ((i:Int),out) R)(h2:∀R:Int×List β→Prop,body ((l.length:Int),l.map f) R):Lp body (0,List.replicate l.length z):=by
 refine Lp.iter l.length (λi y=>y=((i:Int),(l.take i).map f++List.replicate (l.length-i) z)) (by simp) ?_;rintro i y hle rfl R hR;by_cases e:i<l.length
 ·refine h i _ R e (by omega) ⟨by omega,by omega⟩ (by simp;omega) (hR e _ ?_);congr 1;have h1:l.length-i=l.length-(i+1)+1:=by omega
  rw[h1,ZBY,ZBh _ _ (by simp;omega)];have h3:i-((l.take i).map f).length=0:=by simp;omega
  rw[h3,ZCN,A7 e];have h4:l.take (i+1)=l.take i++[l[i]]:=by simp
  rw[h4,ZAa,ZAO];rfl
 ·have :i=l.length:=by omega
  subst this;simp only[zA,ZBT,ZBs,ZAT];exact h2 R
abbrev AT:=List Int×Int
abbrev O:=Int×Int×List Int×Int
abbrev AG:=Int×List (List O)
abbrev U:O:=(0,0,[],0)
def Bw(n:Int):Bool:=decide (-1048576≤n)&&decide (n≤1048576)
def BI(l:AT):Bool:=l.1.all Bw&&(decide ((l.1.length:Int)≤12)&&Bw l.2)
def AJ(c:O):Bool:=if c.1=0∨c.1=1 then c.2.1==0&&BI c.2.2 else if c.1=2 then decide (1≤c.2.1)&&decide (c.2.1≤512)&&BI c.2.2 else false
def DN(p:List O)(n:Int):Bool:=p.all λc=>AJ c&&(c.2.2.1.length:Int)==n
def AD(s:AG):Bool:=decide (0≤s.1)&&decide (s.1≤12)&&decide ((s.2.length:Int)≤400)&&s.2.all λp=>decide ((p.length:Int)≤96)&&DN p s.1
abbrev Bk.fn(x:Int×Unit):Bool:=Bw x.1
abbrev DF.fn(x:AT×Unit):Bool:=BI x.1
abbrev BW.fn(x:O×Unit):Bool:=AJ x.1
abbrev EE.fn(x:List O×Int×Unit):Bool:=DN x.1 x.2.1
abbrev Bf.fn(x:AG×Unit):Bool:=AD x.1
abbrev FA.fn(x:Int×Unit):Bool:=Bw x.1
abbrev Em.fn(x:AT×Unit):Bool:=BI x.1
abbrev C2.fn(x:O×Unit):Bool:=AJ x.1
abbrev Bl.fn(x:AG×Unit):Bool:=AD x.1
def Dn(a b:AG):Int:=if AD a&&AD b then if a.1=b.1 then 0 else 2 else 1
abbrev EF.fn(x:AG×AG×Unit):Int:=Dn x.1 x.2.1
abbrev D5.fn(x:AG×AG×Unit):Int:=Dn x.1 x.2.1
abbrev Fg.fn(x:AT×AT×Unit):Bool:=decide (x.1=x.2.1)
abbrev En.fn(x:O×O×Unit):Bool:=decide (x.1=x.2.1)
abbrev D7.fn(x:List O×List O×Unit):Bool:=decide (x.1=x.2.1)
abbrev DP.fn(x:AG×AG×Unit):Bool:=decide (x.1=x.2.1)
abbrev Cg.fn(x:Int×Unit):AG×Int:=if x.1<0∨12<x.1 then((0,[]),6)else((x.1,[[]]),0)
abbrev Dx.fn(x:Int×Int×Unit):O:=(0,0,[x.1],x.2.1)
abbrev Cm.fn(x:AG×Int×AG×Int×Unit):Bool:=decide (x.2.1=x.2.2.2.1)&&decide (x.1=x.2.2.1)
def AO(l:List Int):Nat:=l.foldl (λg n=>Nat.gcd g n.natAbs) 0
abbrev Dg.fn(x:Int×Unit):Int:=if x.1<0 then IntKind.wrap .u64 (-IntKind.wrap .u64 x.1)else IntKind.wrap .u64 x.1
abbrev Dy.fn(x:Int×Int×Unit):Int:=if x.2.1≤0 then x.1 else if x.1<0 then x.2.1 else(Nat.gcd x.1.toNat x.2.1.toNat:Nat)
abbrev DG.fn(x:Int×Int×Unit):Int:=Dy.fn (x.1,Dg.fn (x.2.1,()),())
abbrev Eh.fn(x:List Int×Int×((Int×Int→Prop)×(Int×Int→Int))×Unit):Int:=x.1.foldl (λg n=>x.2.2.1.2 (g,n)) x.2.1
abbrev Eh.pre(x:List Int×Int×((Int×Int→Prop)×(Int×Int→Int))×Unit):Prop:=∀g,∀n∈x.1,x.2.2.1.1 (g,n)
def DM(l:List Int):Prop:=∀n∈l,-9223372036854775807≤n∧n≤9223372036854775807
abbrev Cc.fn(x:List Int×Unit):Int×Int:=((AO x.1:Nat),0)
abbrev Cc.pre(x:List Int×Unit):Prop:=DM x.1
abbrev D0.fn(x:List Int×Unit):Int×Int:=Cc.fn x
abbrev D0.pre(x:List Int×Unit):Prop:=DM x.1
abbrev C0.fn(x:Int×Int×Unit):Int×Int:=if x.2.1<1 then(0,1)else(x.1/x.2.1,0)
abbrev C0.pre(x:Int×Int×Unit):Prop:=-9223372036854775807≤x.1∧x.1≤9223372036854775807
abbrev CV.fn(x:Int×Int×Unit):Int×Int:=if x.2.1<1 then(0,1)else(x.1%x.2.1,0)
abbrev CV.pre(x:Int×Int×Unit):Prop:=x.2.1≤9223372036854775807
abbrev Dz.fn(x:Int×Int×Unit):Int×Int:=C0.fn x
abbrev Dz.pre(x:Int×Int×Unit):Prop:=C0.pre x
abbrev DH.fn(x:Int×Int×Unit):Int×Int:=CV.fn x
abbrev DH.pre(x:Int×Int×Unit):Prop:=CV.pre x
abbrev F6.fn(x:Int×Unit):Int:=Dg.fn x
set_option maxRecDepth 4000
def Bk.wp(x0:Int)(Q:Bool→Prop):Prop:=(decide (-1048576≤x0)=true→decide (-1048576≤x0)=true∧True)∧(decide (-1048576≤x0)=true→decide (-1048576≤x0)=true)∧Q (decide (-1048576≤x0)&&decide (x0≤1048576))
def DF.wp(x0:AT)(Q:Bool→Prop):Prop:=Lp (σ:=Int) (λy2 R2=>cond (decide (y2<x0.1.length)) ((0≤y2∧y2<x0.1.length)∧cond (! Bk.fn ( x0.1.getD y2.toNat 0,())) (Q false) (AB .i64 (y2+1)∧R2 (y2+1))) ((decide ((x0.1.length:Int)≤12)=true→decide ((x0.1.length:Int)≤12)=true∧True)∧(decide ((x0.1.length:Int)≤12)=true→decide ((x0.1.length:Int)≤12)=true∧True)∧(decide ((x0.1.length:Int)≤12)=true→decide ((x0.1.length:Int)≤12)=true)∧Q (decide ((x0.1.length:Int)≤12)&&Bk.fn (x0.2,())))) 0
def BW.wp(x0:O)(Q:Bool→Prop):Prop:=let v0:=DF.fn (x0.2.2,());cond (x0.1==0) (cond (x0.1==0) (((x0.2.1==0)=true→(x0.2.1==0)=true∧True)∧((x0.2.1==0)=true→(x0.2.1==0)=true∧True)∧((x0.2.1==0)=true→(x0.2.1==0)=true)∧Q ( x0.2.1==0&&v0)) (cond (x0.1==2) ((decide (1≤x0.2.1)=true→decide (1≤x0.2.1)=true∧True)∧(decide (1≤x0.2.1)=true→decide (1≤x0.2.1)=true∧True)∧(decide (1≤x0.2.1)=true→decide (1≤x0.2.1)=true)∧((decide (1≤x0.2.1)&&decide (x0.2.1≤512))=true→(decide (1≤x0.2.1)&&decide (x0.2.1≤512))=true∧True)∧((decide (1≤x0.2.1)&&decide (x0.2.1≤512))=true→(decide (1≤x0.2.1)&&decide (x0.2.1≤512))=true∧True)∧((decide (1≤x0.2.1)&&decide (x0.2.1≤512))=true→(decide (1≤x0.2.1)&&decide (x0.2.1≤512))=true)∧Q ( decide (1≤x0.2.1)&&decide (x0.2.1≤512)&&v0)) (Q false))) (cond (x0.1==1) (((x0.2.1==0)=true→(x0.2.1==0)=true∧True)∧((x0.2.1==0)=true→(x0.2.1==0)=true∧True)∧((x0.2.1==0)=true→(x0.2.1==0)=true)∧Q ( x0.2.1==0&&v0)) (cond (x0.1==2) ((decide (1≤x0.2.1)=true→decide (1≤x0.2.1)=true∧True)∧(decide (1≤x0.2.1)=true→decide (1≤x0.2.1)=true∧True)∧(decide (1≤x0.2.1)=true→decide (1≤x0.2.1)=true)∧((decide (1≤x0.2.1)&&decide (x0.2.1≤512))=true→(decide (1≤x0.2.1)&&decide (x0.2.1≤512))=true∧True)∧((decide (1≤x0.2.1)&&decide (x0.2.1≤512))=true→(decide (1≤x0.2.1)&&decide (x0.2.1≤512))=true∧True)∧((decide (1≤x0.2.1)&&decide (x0.2.1≤512))=true→(decide (1≤x0.2.1)&&decide (x0.2.1≤512))=true)∧Q ( decide (1≤x0.2.1)&&decide (x0.2.1≤512)&&v0)) (Q false)))
def EE.wp(x0:List O)(x1:Int)(Q:Bool→Prop):Prop:=Lp (σ:=Int) (λy3 R3=>let v0:=x0.getD y3.toNat U;cond (decide (y3<x0.length)) ((0≤y3∧y3<x0.length)∧((! ! BW.fn (v0,()))=true→(! ! BW.fn (v0,()))=true∧True)∧((! ! BW.fn (v0,()))=true→(! ! BW.fn (v0,()))=true∧True)∧((! ! BW.fn (v0,()))=true→(! ! BW.fn (v0,()))=true∧True)∧((! ! BW.fn (v0,()))=true→(! ! BW.fn (v0,()))=true∧(! ! BW.fn (v0,()))=true∧True)∧((! BW.fn (v0,()))=false→(! ! BW.fn (v0,()))=true)∧cond ( ! BW.fn (v0,())||v0.2.2.1.length !=x1) (Q false) (AB .i64 (y3+1)∧R3 (y3+1))) (Q true)) 0
def Bf.wp(x0:Int×List (List O))(Q:Bool→Prop):Prop:=((! decide (x0.1<0))=true→(! decide (x0.1<0))=true∧True)∧((! decide (x0.1<0))=true→(! decide (x0.1<0))=true∧True)∧(decide (x0.1<0)=false→(! decide (x0.1<0))=true)∧((!(decide (x0.1<0)||decide (12<x0.1)))=true→(!(decide (x0.1<0)||decide (12<x0.1)))=true∧True)∧((!(decide (x0.1<0)||decide (12<x0.1)))=true→(!(decide (x0.1<0)||decide (12<x0.1)))=true∧True)∧((!(decide (x0.1<0)||decide (12<x0.1)))=true→(!(decide (x0.1<0)||decide (12<x0.1)))=true∧True)∧((decide (x0.1<0)||decide (12<x0.1))=false→(!(decide (x0.1<0)||decide (12<x0.1)))=true)∧cond ( decide (x0.1<0)||decide (12<x0.1)||decide (400<(x0.2.length:Int))) (Q false) (Lp (σ:=Int) (λy2 R2=>let v0:=x0.2.getD y2.toNat ([]:List O);cond (decide (y2<x0.2.length)) ((0≤y2∧y2<x0.2.length)∧((! decide (96<(v0.length:Int)))=true→(! decide (96<(v0.length:Int)))=true∧True)∧((! decide (96<(v0.length:Int)))=true→(! decide (96<(v0.length:Int)))=true∧(! decide (96<(v0.length:Int)))=true∧True)∧((! decide (96<(v0.length:Int)))=true→(! decide (96<(v0.length:Int)))=true∧True)∧(decide (96<(v0.length:Int))=false→(! decide (96<(v0.length:Int)))=true)∧cond (decide (96<(v0.length:Int))||! EE.fn (v0,(x0.1,()))) (Q false) (AB .i64 (y2+1)∧R2 (y2+1))) (Q true)) 0)
def EF.wp(x0:Int×List (List O))(x1:Int×List (List O))(Q:Int→Prop):Prop:=((! ! Bf.fn (x0,()))=true→(! ! Bf.fn (x0,()))=true∧True)∧((! ! Bf.fn (x0,()))=true→(! ! Bf.fn (x0,()))=true∧True)∧((! Bf.fn (x0,()))=false→(! ! Bf.fn (x0,()))=true)∧cond ( ! Bf.fn (x0,())||! Bf.fn (x1,())) (Q 1) (cond (x0.1 !=x1.1) (Q 2) (Q 0))
def Cg.wp(x0:Int)(Q:(Int×List (List O))×Int→Prop):Prop:=((! decide (x0<0))=true→(! decide (x0<0))=true∧True)∧(decide (x0<0)=false→(! decide (x0<0))=true)∧cond (decide (x0<0)||decide (12<x0)) (Q ((0,([]:List (List O))),6)) (Q ((x0,[([]:List O)]),0))
def FA.wp(x0:Int)(Q:Bool→Prop):Prop:=(decide (-1048576≤x0)=true→decide (-1048576≤x0)=true∧True)∧(decide (-1048576≤x0)=true→decide (-1048576≤x0)=true)∧Q (decide (-1048576≤x0)&&decide (x0≤1048576))
def Em.wp(x0:AT)(Q:Bool→Prop):Prop:=Lp (σ:=Int) (λy2 R2=>cond (decide (y2<x0.1.length)) ((0≤y2∧y2<x0.1.length)∧cond (! FA.fn ( x0.1.getD y2.toNat 0,())) (Q false) (AB .i64 (y2+1)∧R2 (y2+1))) ((decide ((x0.1.length:Int)≤12)=true→decide ((x0.1.length:Int)≤12)=true∧True)∧(decide ((x0.1.length:Int)≤12)=true→decide ((x0.1.length:Int)≤12)=true∧True)∧(decide ((x0.1.length:Int)≤12)=true→decide ((x0.1.length:Int)≤12)=true)∧Q (decide ((x0.1.length:Int)≤12)&&FA.fn (x0.2,())))) 0
def C2.wp(x0:O)(Q:Bool→Prop):Prop:=cond (! Em.fn (x0.2.2,())) (Q false) (cond (x0.1==2) ((decide (1≤x0.2.1)=true→decide (1≤x0.2.1)=true∧True)∧(decide (1≤x0.2.1)=true→decide (1≤x0.2.1)=true∧True)∧(decide (1≤x0.2.1)=true→decide (1≤x0.2.1)=true)∧Q (decide (1≤x0.2.1)&&decide (x0.2.1≤512))) (( ! x0.1==0=true→! x0.1==0=true∧True)∧( ! x0.1==0=true→! x0.1==0=true∧True)∧((x0.1==0)=false→(! x0.1==0)=true)∧(( x0.1==0||x0.1==1)=true→( x0.1==0||x0.1==1)=true∧True)∧(( x0.1==0||x0.1==1)=true→( x0.1==0||x0.1==1)=true∧True)∧(( x0.1==0||x0.1==1)=true→( x0.1==0||x0.1==1)=true)∧Q (( x0.1==0||x0.1==1)&&x0.2.1==0)))
def Bl.wp(x0:Int×List (List O))(Q:Bool→Prop):Prop:=((! decide (x0.1<0))=true→(! decide (x0.1<0))=true∧True)∧((! decide (x0.1<0))=true→(! decide (x0.1<0))=true∧True)∧(decide (x0.1<0)=false→(! decide (x0.1<0))=true)∧((!(decide (x0.1<0)||decide (12<x0.1)))=true→(!(decide (x0.1<0)||decide (12<x0.1)))=true∧True)∧((!(decide (x0.1<0)||decide (12<x0.1)))=true→(!(decide (x0.1<0)||decide (12<x0.1)))=true∧True)∧((!(decide (x0.1<0)||decide (12<x0.1)))=true→(!(decide (x0.1<0)||decide (12<x0.1)))=true∧True)∧((decide (x0.1<0)||decide (12<x0.1))=false→(!(decide (x0.1<0)||decide (12<x0.1)))=true)∧cond ( decide (x0.1<0)||decide (12<x0.1)||decide (400<(x0.2.length:Int))) (Q false) (Lp (σ:=Int) (λy2 R2=>let v0:=x0.2.getD y2.toNat ([]:List O);cond (decide (y2<x0.2.length)) ((0≤y2∧y2<x0.2.length)∧cond (decide (96<(v0.length:Int))) (Q false) (Lp (σ:=Int) (λy4 R4=>let v1:=v0.getD y4.toNat U;let v2:=C2.fn (v1,());cond (decide (y4<v0.length)) ((0≤y4∧y4<v0.length)∧((! !v2)=true→(! !v2)=true∧True)∧((! !v2)=true→(! !v2)=true∧True)∧((! !v2)=true→(! !v2)=true∧True)∧((! !v2)=true→(! !v2)=true∧True)∧((! !v2)=true→(! !v2)=true∧(! !v2)=true∧True)∧((!v2)=false→(! !v2)=true)∧cond ( !v2||v1.2.2.1.length !=x0.1) (Q false) (AB .i64 (y4+1)∧R4 (y4+1))) (AB .i64 (y2+1)∧R2 (y2+1))) 0)) (Q true)) 0)
def D5.wp(x0:Int×List (List O))(x1:Int×List (List O))(Q:Int→Prop):Prop:=((! ! Bl.fn (x0,()))=true→(! ! Bl.fn (x0,()))=true∧True)∧((! ! Bl.fn (x0,()))=true→(! ! Bl.fn (x0,()))=true∧True)∧((! Bl.fn (x0,()))=false→(! ! Bl.fn (x0,()))=true)∧cond ( ! Bl.fn (x0,())||! Bl.fn (x1,())) (Q 1) (cond (x0.1 !=x1.1) (Q 2) (Q 0))
def Fg.wp(x0:AT)(x1:AT)(Q:Bool→Prop):Prop:=((! x0.1.length !=(x1.1.length:Int))=true→(! x0.1.length !=(x1.1.length:Int))=true∧True)∧( ! x0.1.length !=(x1.1.length:Int)=true→! x0.1.length !=(x1.1.length:Int)=true∧True)∧( ! x0.1.length !=(x1.1.length:Int)=true→! x0.1.length !=(x1.1.length:Int)=true∧! x0.1.length !=(x1.1.length:Int)=true∧True)∧((x0.1.length !=(x1.1.length:Int))=false→(! x0.1.length !=(x1.1.length:Int))=true)∧cond ( x0.1.length !=(x1.1.length:Int)||x0.2 !=x1.2) (Q false) (Lp (σ:=Int) (λy3 R3=>cond (decide (y3<x0.1.length)) ((0≤y3∧y3<x0.1.length)∧(0≤y3∧y3<x1.1.length)∧cond ( x0.1.getD y3.toNat 0 !=x1.1.getD y3.toNat 0) (Q false) (AB .i64 (y3+1)∧R3 (y3+1))) (Q true)) 0)
def En.wp(x0:O)(x1:O)(Q:Bool→Prop):Prop:=((x0.1==x1.1)=true→(x0.1==x1.1)=true∧True)∧((x0.1==x1.1)=true→(x0.1==x1.1)=true∧True)∧((x0.1==x1.1)=true→(x0.1==x1.1)=true∧(x0.1==x1.1)=true∧True)∧((x0.1==x1.1)=true→(x0.1==x1.1)=true)∧(( x0.1==x1.1&&x0.2.1==x1.2.1)=true→( x0.1==x1.1&&x0.2.1==x1.2.1)=true∧True)∧(( x0.1==x1.1&&x0.2.1==x1.2.1)=true→( x0.1==x1.1&&x0.2.1==x1.2.1)=true∧True)∧(( x0.1==x1.1&&x0.2.1==x1.2.1)=true→( x0.1==x1.1&&x0.2.1==x1.2.1)=true∧( x0.1==x1.1&&x0.2.1==x1.2.1)=true∧True)∧(( x0.1==x1.1&&x0.2.1==x1.2.1)=true→( x0.1==x1.1&&x0.2.1==x1.2.1)=true)∧Q ( x0.1==x1.1&&x0.2.1==x1.2.1&&Fg.fn (x0.2.2,(x1.2.2,())))
def D7.wp(x0:List O)(x1:List O)(Q:Bool→Prop):Prop:=cond (x0.length !=(x1.length:Int)) (Q false) (Lp (σ:=Int) (λy3 R3=>cond (decide (y3<x0.length)) ((0≤y3∧y3<x0.length)∧(0≤y3∧y3<x1.length)∧cond (! En.fn ( x0.getD y3.toNat U,( x1.getD y3.toNat U,()))) (Q false) (AB .i64 (y3+1)∧R3 (y3+1))) (Q true)) 0)
def DP.wp(x0:Int×List (List O))(x1:Int×List (List O))(Q:Bool→Prop):Prop:=( ! x0.1 !=x1.1=true→! x0.1 !=x1.1=true∧True)∧((! x0.1 !=x1.1)=true→(! x0.1 !=x1.1)=true∧True)∧((! x0.1 !=x1.1)=true→! x0.1 !=x1.1=true∧True)∧((! x0.1 !=x1.1)=true→! x0.1 !=x1.1=true∧True)∧((! x0.1 !=x1.1)=true→! x0.1 !=x1.1=true∧! x0.1 !=x1.1=true∧True)∧((x0.1 !=x1.1)=false→! x0.1 !=x1.1=true)∧cond ( x0.1 !=x1.1||x0.2.length !=(x1.2.length:Int)) (Q false) (Lp (σ:=Int) (λy3 R3=>cond (decide (y3<x0.2.length)) ((0≤y3∧y3<x0.2.length)∧(0≤y3∧y3<x1.2.length)∧cond (! D7.fn ( x0.2.getD y3.toNat ([]:List O),( x1.2.getD y3.toNat ([]:List O),()))) (Q false) (AB .i64 (y3+1)∧R3 (y3+1))) (Q true)) 0)
def Dx.wp(x0:Int)(x1:Int)(Q:O→Prop):Prop:=Q (0,(0,([x0],x1)))
def Cm.wp(x0:Int×List (List O))(x1:Int)(x2:Int×List (List O))(x3:Int)(Q:Bool→Prop):Prop:=((x1==x3)=true→(x1==x3)=true∧(x1==x3)=true∧True)∧((x1==x3)=true→(x1==x3)=true)∧Q ( x1==x3&&DP.fn (x0,(x2,())))
def Dg.wp(x0:Int)(Q:Int→Prop):Prop:=let v0:=IntKind.wrap .u64 x0;cond (decide (x0<0)) (Q (IntKind.wrap .u64 (-v0))) (Q v0)
def Dy.wp(x0:Int)(x1:Int)(Q:Int→Prop):Prop:=Lp (σ:=Int×Int) (λy3 R3=>cond (decide (0<y3.1)) (y3.1≠0∧R3 (Int.tmod y3.2 y3.1,y3.1)) (Q y3.2)) (x1,x0)
def DG.wp(x0:Int)(x1:Int)(Q:Int→Prop):Prop:=Q (Dy.fn (x0,(Dg.fn (x1,()),())))
def Eh.wp(x0:List Int)(x1:Int)(x2:(Int×Int→Prop)×(Int×Int→Int))(Q:Int→Prop):Prop:=Lp (σ:=Int×Int) (λy4 R4=>let v0:=x0.getD y4.1.toNat 0;cond (decide (y4.1<x0.length)) ((0≤y4.1∧y4.1<x0.length)∧x2.1 (y4.2,v0)∧AB .i64 (y4.1+1)∧R4 ( y4.1+1,x2.2 (y4.2,v0))) (Q y4.2)) (0,x1)
def Cc.wp(x0:List Int)(Q:Int×Int→Prop):Prop:=let v0:=Eh.fn (x0,(0,((λ(a2:Int×Int)=>True,λ(a2:Int×Int)=>DG.fn (a2.1,(a2.2,()))),())));Eh.pre (x0,(0,((λ(a2:Int×Int)=>True,λ(a2:Int×Int)=>DG.fn (a2.1,(a2.2,()))),())))∧cond (decide (9223372036854775807<v0)) (Q (0,3)) (AB .i64 v0∧Q (v0,0))
def C0.wp(x0:Int)(x1:Int)(Q:Int×Int→Prop):Prop:=cond (decide (x1<1)) (Q (0,1)) ((x1≠0∧AB .i64 (Int.tdiv x0 x1))∧x1≠0∧cond (decide (Int.tmod x0 x1<0)) (AB .i64 (Int.tdiv x0 x1-1)∧Q ( Int.tdiv x0 x1-1,0)) (Q (Int.tdiv x0 x1,0)))
def CV.wp(x0:Int)(x1:Int)(Q:Int×Int→Prop):Prop:=cond (decide (x1<1)) (Q (0,1)) (x1≠0∧cond (decide (Int.tmod x0 x1<0)) (AB .i64 (Int.tmod x0 x1+x1)∧Q ( Int.tmod x0 x1+x1,0)) (Q (Int.tmod x0 x1,0)))
def D0.wp(x0:List Int)(Q:Int×Int→Prop):Prop:=Lp (σ:=Int×Int) (λy2 R2=>cond (decide (y2.1<x0.length)) ((0≤y2.1∧y2.1<x0.length)∧Lp (σ:=Int×Int) (λy4 R4=>cond (y4.1 !=0) (y4.1≠0∧R4 (Int.tmod y4.2 y4.1,y4.1)) (AB .i64 (y2.1+1)∧R2 ( y2.1+1,y4.2))) (F6.fn ( x0.getD y2.1.toNat 0,()),y2.2)) (cond (y2.2==9223372036854775808) (Q (0,3)) (AB .i64 y2.2∧Q (y2.2,0)))) (0,0)
def Dz.wp(x0:Int)(x1:Int)(Q:Int×Int→Prop):Prop:=cond (decide (x1<1)) (Q (0,1)) ((x1≠0∧AB .i64 (Int.tdiv x0 x1))∧x1≠0∧cond (decide (Int.tmod x0 x1<0)) (AB .i64 (Int.tdiv x0 x1-1)∧Q ( Int.tdiv x0 x1-1,0)) (Q (Int.tdiv x0 x1,0)))
def DH.wp(x0:Int)(x1:Int)(Q:Int×Int→Prop):Prop:=cond (decide (x1<1)) (Q (0,1)) (x1≠0∧cond (decide (Int.tmod x0 x1<0)) (AB .i64 (Int.tmod x0 x1+x1)∧Q ( Int.tmod x0 x1+x1,0)) (Q (Int.tmod x0 x1,0)))
def F6.wp(x0:Int)(Q:Int→Prop):Prop:=let v0:=IntKind.wrap .u64 x0;cond (decide (x0<0)) (Q (IntKind.wrap .u64 (-v0))) (Q v0)
theorem Bk.spec(x:Int):Bk.wp x λr=>r=Bk.fn (x,()):=by simp[Bk.wp,Bk.fn,Bw]
theorem FA.spec(x:Int):FA.wp x λr=>r=FA.fn (x,()):=by simp[FA.wp,FA.fn,Bw]
theorem DF.spec(x:AT)(hl:x.1.length≤9223372036854775807):DF.wp x λr=>r=DF.fn (x,()):=by
 refine Lp.all x.1 0 Bw hl (λi R hi hi' hf ht FO=>?_) λR h=>?_;·rw[yO hi'];refine⟨⟨by omega,hi'⟩,?_⟩;rw[yQ];show cond (!Bw (x.1.getD i 0)) _ _;cases h:Bw (x.1.getD i 0)with|true=>exact⟨hf,ht h⟩|false=>simp[DF.fn,BI,FO h]
 ·simp[DF.fn,Bk.fn,BI,h]
theorem Em.spec(x:AT)(hl:x.1.length≤9223372036854775807):Em.wp x λr=>r=Em.fn (x,()):=by
 refine Lp.all x.1 0 Bw hl (λi R hi hi' hf ht FO=>?_) λR h=>?_;·rw[yO hi'];refine⟨⟨by omega,hi'⟩,?_⟩;rw[yQ];show cond (!Bw (x.1.getD i 0)) _ _;cases h:Bw (x.1.getD i 0)with|true=>exact⟨hf,ht h⟩|false=>simp[Em.fn,BI,FO h]
 ·simp[Em.fn,FA.fn,BI,h]
theorem BW.spec(x:O):BW.wp x λr=>r=BW.fn (x,()):=by
 obtain⟨k,m,l⟩:=x;by_cases h0:k=0;·subst h0;simp[BW.wp,BW.fn,AJ,DF.fn]
 by_cases h1:k=1;·subst h1;simp[BW.wp,BW.fn,AJ,DF.fn]
 by_cases h2:k=2;·subst h2;simp[BW.wp,BW.fn,AJ,DF.fn]
 simp[BW.wp,BW.fn,AJ,DF.fn,h0,h1,h2]
theorem C2.spec(x:O):C2.wp x λr=>r=C2.fn (x,()):=by
 obtain⟨k,m,l⟩:=x;simp only[C2.wp,C2.fn,AJ,Em.fn];cases hl:BI l<;>by_cases h0:k=0;all_goals first|(subst h0;simp;done)|skip
 all_goals by_cases h1:k=1
 all_goals first|(subst h1;simp;done)|skip
 all_goals by_cases h2:k=2
 all_goals first|(subst h2;simp;done)|skip
 all_goals simp[h0,h1,h2]
theorem EE.spec(x:List O)(n:Int)(hl:x.length≤9223372036854775807):EE.wp x n λr=>r=EE.fn (x,n,()):=by
 refine Lp.all x U (λc=>AJ c&&(c.2.2.1.length:Int)==n) hl (λi R hi hi' hf ht FO=>?_) λR h=>?_;·simp only[yO hi',yQ,BW.fn];refine⟨⟨by omega,hi'⟩,?_⟩;have ht':AJ (x.getD i U)=true→(((x.getD i U).2.2.1.length:Int)==n)=true→R ((i:Int)+1):=λh1 h2=>ht (by rw[h1,h2];rfl);have Lr:(AJ (x.getD i U)&&((x.getD i U).2.2.1.length:Int)==n)=false→EE.fn (x,n,())=false:=λh=>FO h;revert ht' Lr;generalize x.getD i U=c;intro ht' Lr;cases h1:AJ c with|false=>simp[Lr (by rw[h1];rfl)]|true=>cases h2:(c.2.2.1.length:Int)==n with|true=>simp[bne,h2,hf,ht' h1 h2]|false=>simp[bne,h2,Lr (by rw[h1,h2];rfl)]
 ·simp[EE.fn,DN,h]
theorem Bf.spec(x:AG)(hl:x.2.length≤9223372036854775807):Bf.wp x λr=>r=Bf.fn (x,()):=by
 obtain⟨n,ps⟩:=x;simp only[Bf.wp,Bf.fn];have hg:∀b:Bool,b=true→b=true∧True:=λb h=>⟨h,trivial⟩;have hn:∀b:Bool,b=false→(!b)=true:=λb h=>by rw[h];rfl
 refine⟨hg _,hg _,hn _,hg _,hg _,hg _,hn _,?_⟩;by_cases h1:n<0;·simp[h1,AD,show¬0≤n by omega]
 by_cases h2:12<n;·simp[h1,h2,AD,show¬n≤12 by omega]
 by_cases h3:(400:Int)<(ps.length:Int);·simp only[yO h3,ZBD,yR];simp[AD,show¬(ps.length:Int)≤400 by omega]
 rw[yV h1,yV h2,yV h3];have hv:∀b,ps.all (λp=>decide ((p.length:Int)≤96)&&DN p n)=b→AD (n,ps)=b:=λb h=>by simp only[AD,h];rw[yO (show(0:Int)≤n by omega),yO (show n≤12 by omega),yO (show(ps.length:Int)≤400 by omega)];rfl
 refine Lp.all ps [] (λp=>decide ((p.length:Int)≤96)&&DN p n) hl (λi R hi hi' hf ht FO=>?_) λR h=>?_
 ·simp only[yO hi',yQ,EE.fn];refine⟨⟨by omega,hi'⟩,?_⟩;by_cases h4:(96:Int)<((ps.getD i []).length:Int);·simp only[yO h4];have :=hv false (FO (by rw[yV (show¬((ps.getD i []).length:Int)≤96 by omega)];rfl));simp[this]
  ·simp only[yV h4];cases h5:DN (ps.getD i []) n with|true=>have :=ht (by rw[h5,yO (show((ps.getD i []).length:Int)≤96 by omega)];rfl);simp[hf,this]|false=>have :=hv false (FO (by rw[h5,ZB7]));simp[this]
 ·simp[hv true h]
theorem EF.spec(x y:AG):EF.wp x y λr=>r=EF.fn (x,y,()):=by simp only[EF.wp,Bf.fn,EF.fn,Dn];by_cases h:x.1=y.1<;>cases AD x<;>cases AD y<;>simp[h]
theorem D5.spec(x y:AG):D5.wp x y λr=>r=D5.fn (x,y,()):=by simp only[D5.wp,Bl.fn,D5.fn,Dn];by_cases h:x.1=y.1<;>cases AD x<;>cases AD y<;>simp[h]
theorem Xe{α:Type}{a b:List α}{d:α}(hl:a.length=b.length)(h:∀j,j<a.length→a.getD j d=b.getD j d):a=b:=by apply List.ext_getElem hl;intro i h1 h2;have :=h i h1;rwa[A7 h1,A7 h2]at this
theorem Fg.spec(x y:AT)(hl:x.1.length≤9223372036854775807):Fg.wp x y λr=>r=Fg.fn (x,y,()):=by
 obtain⟨c,k⟩:=x;obtain⟨d,m⟩:=y;simp only[Fg.wp,Fg.fn];have hg:∀b:Bool,b=true→b=true∧True:=λb h=>⟨h,trivial⟩;refine⟨hg _,hg _,λh=>⟨h,h,trivial⟩,λh=>by rw[h];rfl,?_⟩;by_cases h1:c.length=d.length
 ·by_cases h2:k=m
  ·subst h2;simp only[h1,zJ,ZBL,yN];rw[show((d.length:Nat):Int)=(c.length:Int)by omega];refine Lp.iter c.length (λi y=>y=(i:Int)∧∀j,j<i→c.getD j 0=d.getD j 0) ⟨rfl,λj hj=>absurd hj (by omega)⟩ ?_;rintro i y hle⟨rfl,hi⟩R hR;by_cases e:i<c.length
   ·rw[yO (show(i:Int)<(c.length:Int)by omega)];refine⟨⟨by omega,by omega⟩,⟨by omega,by omega⟩,?_⟩;rw[yQ];by_cases h3:c.getD i 0=d.getD i 0
    ·rw[h3];simp only[zJ,yN];have MC:c.length≤9223372036854775807:=hl;refine⟨⟨by omega,by omega⟩,hR e _ ⟨by omega,λj hj=>?_⟩⟩;by_cases ej:j=i;·subst ej;exact h3
     ·exact hi j (by omega)
    ·rw[bne_iff_ne.2 h3];refine(yV λh=>h3 ?_).symm;rw[ZBM]at h;rw[h.1]
   ·have :i=c.length:=by omega
    subst this;simp only[yY,yZ,yN];exact(yO (by rw[Xe h1 hi])).symm
  ·simp only[bne_iff_ne.2 h2,ZBD,yR];exact(yV λh=>h2 (by rw[ZBM]at h;exact h.2)).symm
 ·simp only[bne_iff_ne.2 (show((c.length:Nat):Int)≠(d.length:Int)by omega),ZBd,yR];exact(yV λh=>h1 (by rw[ZBM]at h;rw[h.1])).symm
theorem En.spec(x y:O):En.wp x y λr=>r=En.fn (x,y,()):=by obtain⟨k,m,l⟩:=x;obtain⟨k',m',l'⟩:=y;simp only[En.wp,En.fn,Fg.fn];by_cases h1:k=k'<;>by_cases h2:m=m'<;>simp[h1,h2,Prod.ext_iff]
theorem XZ{α:Type}{d:α}[DecidableEq α]{a b:List α}{Q:Bool→Prop}{body:Int→(Int→Prop)→Prop}(hl:a.length≤9223372036854775807)(h1:a.length=b.length)(hQ:Q (decide (a=b)))(h:∀(i:Nat)(R:Int→Prop),i<a.length→i<b.length→AB .i64 ((i:Int)+1)→(a.getD i d=b.getD i d→R ((i:Int)+1))→(a.getD i d≠b.getD i d→Q false)→body (i:Int) R)(h2:∀R:Int→Prop,Q true→body (a.length:Int) R):Lp body 0:=by
 refine Lp.iter a.length (λi y=>y=(i:Int)∧∀j,j<i→a.getD j d=b.getD j d) ⟨rfl,λj hj=>absurd hj (by omega)⟩ ?_;rintro i y hle⟨rfl,hi⟩R hR;by_cases e:i<a.length
 ·refine h i R e (by omega) ⟨by omega,by omega⟩ (λhe=>hR e _ ⟨by omega,λj hj=>?_⟩) λAb=>?_
  ·by_cases ej:j=i;·subst ej;exact he
   ·exact hi j (by omega)
  ·rwa[yV λh=>Ab (by rw[h])]at hQ
 ·have :i=a.length:=by omega
  subst this;refine h2 R ?_;rwa[yO (Xe h1 hi)]at hQ
theorem D7.spec(x y:List O)(hl:x.length≤9223372036854775807):D7.wp x y λr=>r=D7.fn (x,y,()):=by
 simp only[D7.wp];by_cases h1:x.length=y.length
 ·rw[h1];simp only[zJ,yN];rw[←h1];refine XZ (d:=U) hl h1 (Q:=λr=>r=D7.fn (x,y,())) rfl (λi R hi hi2 hf ht FO=>?_) λR h=>?_
  ·rw[yO (show(i:Int)<(x.length:Int)by omega)];refine⟨⟨by omega,by omega⟩,⟨by omega,by omega⟩,?_⟩;simp only[yQ,En.fn];by_cases e:x.getD i U=y.getD i U;·rw[yO e];exact⟨hf,ht e⟩
   ·rw[yV e];exact FO e
  ·simp only[yY,yZ,yN];exact h
 ·rw[bne_iff_ne.2 (show((x.length:Nat):Int)≠(y.length:Int)by omega)];exact(yV λh=>h1 (zX List.length h)).symm
theorem DP.spec(x y:AG)(hl:x.2.length≤9223372036854775807):DP.wp x y λr=>r=DP.fn (x,y,()):=by
 obtain⟨n,a⟩:=x;obtain⟨m,b⟩:=y;simp only[DP.wp];have hg:∀b:Bool,b=true→b=true∧True:=λb h=>⟨h,trivial⟩;refine⟨hg _,hg _,hg _,hg _,λh=>⟨h,h,trivial⟩,λh=>by rw[h];rfl,?_⟩;by_cases h0:n=m
 ·by_cases h1:a.length=b.length
  ·subst h0;simp only[h1,zJ,ZBL,yN];rw[←h1];refine XZ (d:=[]) (a:=a) (b:=b) hl h1 (Q:=λr=>r=DP.fn ((n,a),(n,b),())) (by simp[DP.fn]) (λi R hi hi2 hf ht FO=>?_) λR h=>?_
   ·rw[yO (show(i:Int)<(a.length:Int)by omega)];refine⟨⟨by omega,by omega⟩,⟨by omega,by omega⟩,?_⟩;simp only[yQ,D7.fn];by_cases e:a.getD i []=b.getD i [];·rw[yO e];exact⟨hf,ht e⟩
    ·rw[yV e];exact FO e
   ·simp only[yY,yZ,yN];exact h
  ·simp only[bne_iff_ne.2 (show((a.length:Nat):Int)≠(b.length:Int)by omega),ZBD,yR];exact(yV λh=>h1 (by rw[ZBM]at h;rw[h.2])).symm
 ·simp only[bne_iff_ne.2 h0,ZBd,yR];exact(yV λh=>h0 (by rw[ZBM]at h;rw[h.1])).symm
theorem Cg.spec(n:Int):Cg.wp n λr=>r=Cg.fn (n,()):=by simp only[Cg.wp,Cg.fn];by_cases h1:n<0<;>by_cases h2:12<n<;>simp[h1,h2]
theorem Dx.spec(a b:Int):Dx.wp a b λr=>r=Dx.fn (a,b,()):=rfl
theorem Cm.spec(a:AG)(e:Int)(b:AG)(f:Int):Cm.wp a e b f λr=>r=Cm.fn (a,e,b,f,()):=by simp only[Cm.wp,Cm.fn,DP.fn];by_cases h:e=f<;>simp[h]
theorem Dg.spec(n:Int):Dg.wp n λr=>r=Dg.fn (n,()):=by simp only[Dg.wp,Dg.fn];by_cases h:n<0<;>simp[h]
theorem F6.spec(n:Int):F6.wp n λr=>r=F6.fn (n,()):=by simp only[F6.wp,F6.fn,Dg.fn];by_cases h:n<0<;>simp[h]
theorem wH(n:Int):IntKind.wrap .u64 n=n%18446744073709551616:=by simp[IntKind.wrap,IntKind.bits,IntKind.signed]
theorem cH{n:Int}(h:-9223372036854775807≤n)(h2:n≤9223372036854775807):Dg.fn (n,())=(n.natAbs:Int):=by
 simp only[Dg.fn,wH];split
 ·have h3:n%18446744073709551616=n+18446744073709551616:=by omega
  rw[h3];omega
 ·rw[ZC2 (by omega) (by omega)];omega
theorem X1{a b:Int}(ha:0≤a)(hb:0<b):Nat.gcd b.toNat (a.tmod b).toNat=Nat.gcd a.toNat b.toNat:=by obtain⟨m,rfl⟩:∃m:Nat,a=m:=⟨a.toNat,by omega⟩;obtain⟨k,rfl⟩:∃k:Nat,b=k:=⟨b.toNat,by omega⟩;rw[Int.tmod_eq_emod_of_nonneg ha,←Int.natCast_emod,yQ,yQ,yQ,ZDp m k,Nat.gcd_rec k m,ZDp]
theorem Dy.spec(a b:Int):Dy.wp a b λr=>r=Dy.fn (a,b,()):=by
 simp only[Dy.wp];refine Lp.wf (λy=>Dy.fn (y.2,y.1,())=Dy.fn (a,b,())) (λy=>y.1.toNat) (λy hy R hR=>?_) rfl;obtain⟨b',a'⟩:=y;simp only at hy⊢;by_cases h:0<b'
 ·rw[yO h];have AY:=ZDl a' h;refine⟨by omega,hR _ ?_ (by omega)⟩;rw[←hy];simp only[Dy.fn];rw[yP (show¬b'≤0 by omega)];by_cases ha:a'<0;·rw[yS ha,yS (show a'.tmod b'≤0 from by have :=ZCh b' (show 0≤-a' by omega);rw[Int.neg_tmod]at this;omega)]
  ·rw[yP ha];have h0:=ZCh b' (show 0≤a' by omega);have :=X1 (show 0≤a' by omega) h;by_cases hz:a'.tmod b'≤0
   ·rw[yS hz];have e:a'.tmod b'=0:=by omega
    rw[e]at this;simp only[Int.toNat_zero,ZDq]at this;rw[←this];omega
   ·rw[yP hz,yP (show¬b'<0 by omega),this]
 ·rw[yV h];rw[←hy];simp only[Dy.fn];rw[yS (show b'≤0 by omega)];rfl
theorem DG.fn_eq(a n:Int)(ha:0≤a)(h:-9223372036854775807≤n)(h2:n≤9223372036854775807):DG.fn (a,n,())=(Nat.gcd a.toNat n.natAbs:Nat):=by
 simp only[DG.fn,cH h h2,Dy.fn];split
 ·have :n.natAbs=0:=by omega
  rw[this];simp;omega
 ·rw[yP (by omega)];simp
theorem DG.spec(a b:Int):DG.wp a b λr=>r=DG.fn (a,b,()):=rfl
theorem Eh.spec(l:List Int)(a:Int)(f:(Int×Int→Prop)×(Int×Int→Int))(hl:l.length≤9223372036854775807)(hp:Eh.pre (l,a,f,())):Eh.wp l a f λr=>r=Eh.fn (l,a,f,()):=by
 refine Lp.foldl l 0 (λg n=>f.2 (g,n)) a hl (λi t R hi hi' hf ht hR=>?_) λR=>?_;·simp only[yO hi',yQ];exact⟨⟨by omega,hi'⟩,hp _ _ (AX hi),hf,hR⟩
 ·simp only[yY,yZ,yN]
theorem S4{l:List Int}(h:DM l):∀g:Nat,l.foldl (λg n=>DG.fn (g,n,())) (g:Int)=((l.foldl (λg n=>Nat.gcd g n.natAbs) g:Nat):Int):=by induction l with|nil=>exact λg=>rfl|cons n l ih=>intro g;have hn:=h n (by simp);simp only[ZAg];rw[DG.fn_eq _ _ (by omega) hn.1 hn.2];exact ih (λm hm=>h m (by simp[hm])) _
theorem Xt{l:List Int}:∀g:Nat,0<g→l.foldl (λg n=>Nat.gcd g n.natAbs) g≤g:=by induction l with|nil=>exact λg _=>zB _|cons n l ih=>intro g hg;simp only[ZAg];exact zV (ih _ (Nat.gcd_pos_of_pos_left _ hg)) (Nat.gcd_le_left _ hg)
theorem Pp{l:List Int}(h:DM l):AO l≤9223372036854775807:=by
 unfold AO;have key:∀l:List Int,DM l→l.foldl (λg n=>Nat.gcd g n.natAbs) 0≤9223372036854775807:=by intro l;induction l with|nil=>exact λ_=>by simp|cons n l ih=>
  intro h;have hn:=h n (by simp);simp only[ZAg,ZCU];by_cases e:n.natAbs=0;·rw[e];exact ih λm hm=>h m (by simp[hm])
  ·exact zV (Xt _ (by omega)) (by omega)
 exact key l h
theorem Cc.spec(l:List Int)(hp:Cc.pre (l,())):Cc.wp l λr=>r=Cc.fn (l,()):=by have hle:AO l≤9223372036854775807:=Pp hp;have e:Eh.fn (l,0,(λ_=>True,λa=>DG.fn (a.1,a.2,())),())=(AO l:Int):=S4 hp 0;simp only[Cc.wp];refine⟨λ_ _ _=>trivial,?_⟩;rw[e,yV (show¬(9223372036854775807:Int)<(AO l:Int)by omega)];exact⟨⟨by omega,by omega⟩,rfl⟩
theorem Xq{a b:Int}(hb:0<b):(a.tmod b<0→a.tdiv b-1=a/b∧a.tmod b+b=a%b)∧(¬a.tmod b<0→a.tdiv b=a/b∧a.tmod b=a%b):=by
 have h1:=ZBS a (show b≠0 by omega);have h2:=ZBH a hb;rw[Int.tmod_eq_emod,Int.tdiv_eq_ediv];split;·exact⟨λh=>by omega,λ_=>⟨by omega,by omega⟩⟩
 ·rw[Int.sign_eq_one_of_pos hb];exact⟨λ_=>⟨by omega,by omega⟩,λh=>by omega⟩
theorem jM{a b:Int}(hb:0<b)(h:-9223372036854775807≤a)(h2:a≤9223372036854775807):-9223372036854775807≤a/b∧a/b≤9223372036854775807:=by
 constructor;·rw[ZDN hb];have :=ZB2 (show(1:Int)≤b by omega) (show(0:Int)≤9223372036854775807 by omega);rw[show(-9223372036854775807:Int)=-9223372036854775807 from rfl,ZD2];omega
 ·refine Int.le_of_lt_add_one ?_;rw[Int.ediv_lt_iff_lt_mul hb];have :=ZB2 (show(1:Int)≤b by omega) (show(0:Int)≤9223372036854775808 by omega);omega
theorem Xr{a b:Int}(hp:C0.pre (a,b,())){Q:Int×Int→Prop}(h:Q (C0.fn (a,b,()))):cond (decide (b<(1:Int))) (Q ((0:Int),(1:Int))) ((b≠(0:Int)∧AB IntKind.i64 (Int.tdiv a b))∧b≠(0:Int)∧cond (decide (Int.tmod a b<(0:Int))) (AB IntKind.i64 (Int.tdiv a b-(1:Int))∧Q ( Int.tdiv a b-(1:Int),(0:Int))) (Q (Int.tdiv a b,(0:Int)))):=by
 simp only[C0.fn]at h;by_cases h1:b<1;·rw[yO h1];rwa[yS h1]at h
 ·rw[yV h1];rw[yP h1]at h;have hb:-9223372036854775807≤a/b∧a/b≤9223372036854775807:=jM (b:=b) (by omega) hp.1 hp.2;have hf:=Xq (a:=a) (b:=b) (by omega);have hq:AB IntKind.i64 (a.tdiv b):=by
   by_cases h2:a.tmod b<0
   ·have h5:=(hf.1 h2).1;have ha:a<0:=Int.not_le.1 λh=>by have :=ZCh b h;omega
    have :=Int.ediv_neg_of_neg_of_pos ha (show 0<b by omega);exact⟨by omega,by omega⟩
   ·have :=(hf.2 h2).1;exact⟨by omega,by omega⟩
  refine⟨⟨by omega,hq⟩,by omega,?_⟩;by_cases h2:a.tmod b<0;·rw[yO h2];have :=(hf.1 h2).1;rw[←this]at h;exact⟨⟨by omega,by omega⟩,h⟩
  ·rw[yV h2];rw[←(hf.2 h2).1]at h;exact h
theorem C0.spec(a b:Int)(hp:C0.pre (a,b,())):C0.wp a b λr=>r=C0.fn (a,b,()):=Xr (Q:=λr=>r=C0.fn (a,b,())) hp rfl
theorem Dz.spec(a b:Int)(hp:Dz.pre (a,b,())):Dz.wp a b λr=>r=Dz.fn (a,b,()):=Xr (Q:=λr=>r=Dz.fn (a,b,())) hp rfl
theorem aF{a b:Int}(hp:CV.pre (a,b,())){Q:Int×Int→Prop}(h:Q (CV.fn (a,b,()))):cond (decide (b<(1:Int))) (Q ((0:Int),(1:Int))) (b≠(0:Int)∧cond (decide (Int.tmod a b<(0:Int))) (AB IntKind.i64 (Int.tmod a b+b)∧Q ( Int.tmod a b+b,(0:Int))) (Q (Int.tmod a b,(0:Int)))):=by
 simp only[CV.fn]at h;have hp:b≤9223372036854775807:=hp;by_cases h1:b<1;·rw[yO h1];rwa[yS h1]at h
 ·rw[yV h1];rw[yP h1]at h;have hf:=Xq (a:=a) (b:=b) (by omega);have h3:=ZBS a (show b≠0 by omega);have h4:=ZBH a (show 0<b by omega);refine⟨by omega,?_⟩;by_cases h2:a.tmod b<0;·rw[yO h2];have :=(hf.1 h2).2;rw[←this]at h;exact⟨⟨by omega,by omega⟩,h⟩
  ·rw[yV h2];rw[←(hf.2 h2).2]at h;exact h
theorem CV.spec(a b:Int)(hp:CV.pre (a,b,())):CV.wp a b λr=>r=CV.fn (a,b,()):=aF (Q:=λr=>r=CV.fn (a,b,())) hp rfl
theorem DH.spec(a b:Int)(hp:DH.pre (a,b,())):DH.wp a b λr=>r=DH.fn (a,b,()):=aF (Q:=λr=>r=DH.fn (a,b,())) hp rfl
theorem D0.spec(l:List Int)(hl:l.length≤9223372036854775807)(hp:D0.pre (l,())):D0.wp l λr=>r=D0.fn (l,()):=by
 have e:=S4 hp 0;have hle:AO l≤9223372036854775807:=Pp hp;refine Lp.foldl l 0 (λg n=>DG.fn (g,n,())) 0 hl (λi t R hi hi' hf ht hR=>?_) λR=>?_
 ·simp only[yO hi',yQ];refine⟨⟨by omega,hi'⟩,?_⟩;have hn:=hp _ (AX (d:=0) hi);have h0:0≤t:=by have :=S4 (l:=l.take i) (λm hm=>hp m (zZ hm)) 0;rw[ht,show(0:Int)=((0:Nat):Int)from rfl,this];omega
  rw[DG.fn_eq _ _ h0 hn.1 hn.2]at hR;show Lp _ (Dg.fn (l.getD i 0,()),t);rw[cH hn.1 hn.2];revert hR;generalize(l.getD i 0).natAbs=m;intro hR;refine Lp.wf (λy=>0≤y.1∧0≤y.2∧Nat.gcd y.2.toNat y.1.toNat=Nat.gcd t.toNat m) (λy=>y.1.toNat) (λy hy R2 A8=>?_) ⟨by simp,h0,by simp⟩;obtain⟨b',a'⟩:=y;obtain⟨h1,h2,h3⟩:=hy;simp only at h1 h2 h3⊢;by_cases hz:b'=0;·subst hz;simp only[zJ,yN];refine⟨hf,?_⟩;rw[←h3]at hR;simp only[Int.toNat_zero,ZDq,ZBV h2]at hR;exact hR
  ·rw[bne_iff_ne.2 hz];have AY:=ZDl a' (show 0<b' by omega);have h0':=ZCh b' h2;exact⟨hz,A8 _ ⟨h0',h1,by rw[X1 h2 (by omega)];exact h3⟩ (by show(a'.tmod b').toNat<b'.toNat;omega)⟩
 ·simp only[yY,yZ,yN];have e':l.foldl (λg n=>DG.fn (g,n,())) 0=(AO l:Int):=e;rw[e'];have :((AO l:Int)==9223372036854775808)=false:=by rw[beq_eq_false_iff_ne];omega
  rw[this];exact⟨⟨by omega,by omega⟩,rfl⟩
def Bj(n:Int):Prop:=-2305843009213693952≤n∧n≤2305843009213693952
def linB(l:AT):Prop:=l.1.length≤1048576∧(∀n∈l.1,Bj n)∧Bj l.2
def OE(c:O):Prop:=c.1=0∨c.1=1∨c.1=2∧1≤c.2.1∧c.2.1≤2305843009213693952
def condB(c:O):Prop:=OE c∧linB c.2.2
def A2(p:List O):Prop:=p.length≤1048576∧∀c∈p,condB c
def Cs(b:Bool):O×Int:=(U,if b then 1 else-1)
def FM(c:O):O×Int:=if AO c.2.2.1=0 then Cs (decide (0≤c.2.2.2))else((0,0,c.2.2.1.map (·.tdiv (AO c.2.2.1)),c.2.2.2/(AO c.2.2.1:Int)),0)
def Ct:List Int→Bool|[]=>false|n::l=>if n=0 then Ct l else decide (n<0)
def Bo(c:O):Int:=if Ct c.2.2.1 then-(AO c.2.2.1:Int)else(AO c.2.2.1:Int)
def Bt(c:O):O×Int:=if AO c.2.2.1=0∨c.2.2.2.tmod (AO c.2.2.1)≠0 then Cs (decide (AO c.2.2.1=0)&&c.2.2.2==0)else((1,0,c.2.2.1.map (·.tdiv (Bo c)),c.2.2.2.tdiv (Bo c)),0)
def As(c:O):Nat:=AO (c.2.1::c.2.2.1.map (·%c.2.1))
def EJ(c:O):O×Int:=if(c.2.2.2%c.2.1).tmod (As c)≠0 then Cs false else if c.2.1=As c then Cs true else((2,c.2.1.tdiv (As c),(c.2.2.1.map (·%c.2.1)).map (·.tdiv (As c)),(c.2.2.2%c.2.1).tdiv (As c)),0)
def AV(c:O):O×Int:=if c.1=0 then FM c else if c.1=1 then Bt c else EJ c
abbrev CN.fn(x:O×Int×Unit):List Int:=x.1.2.2.1.map (·.tdiv x.2.1)
abbrev CN.pre(x:O×Int×Unit):Prop:=x.2.1≠0∧x.1.2.2.1.length≤1048576∧DM x.1.2.2.1
abbrev DY.fn(x:Bool×Unit):O×Int:=Cs x.1
abbrev FC.fn(x:Bool×Unit):O×Int:=Cs x.1
abbrev Dr.fn(x:O×Unit):O×Int:=FM x.1
abbrev Dr.pre(x:O×Unit):Prop:=linB x.1.2.2
abbrev Dq.fn(x:O×Unit):O×Int:=Bt x.1
abbrev Dq.pre(x:O×Unit):Prop:=linB x.1.2.2
abbrev Dp.fn(x:O×Unit):O×Int:=EJ x.1
abbrev Dp.pre(x:O×Unit):Prop:=linB x.1.2.2∧1≤x.1.2.1∧x.1.2.1≤2305843009213693952
abbrev BU.fn(x:O×Unit):O×Int:=AV x.1
abbrev BU.pre(x:O×Unit):Prop:=condB x.1
def Cb(c:O):O×Int×Int:=if(AV c).2=0∧AJ (AV c).1=false then(U,0,3)else((AV c).1,(AV c).2,0)
abbrev Cj.fn(x:O×Unit):O×Int×Int:=Cb x.1
abbrev Cj.pre(x:O×Unit):Prop:=condB x.1
def GX(l:AT)(k:Int):AT:=(l.1.map λn=>-n,k-l.2)
abbrev EI.fn(x:AT×Int×Unit):AT:=GX x.1 x.2.1
abbrev EI.pre(x:AT×Int×Unit):Prop:=linB x.1∧Bj x.2.1
def Bh(c:O):List O:=if c.1=0 then[(0,0,GX c.2.2 (-1))]else if c.1=1 then[(0,0,c.2.2.1,c.2.2.2-1),(0,0,GX c.2.2 (-1))]else(List.range (c.2.1-1).toNat).map λ(r:Nat)=>((2,c.2.1,c.2.2.1,c.2.2.2-((r:Int)+1)):O)
abbrev DX.fn(x:O×Unit):List O:=Bh x.1
abbrev DX.pre(x:O×Unit):Prop:=AJ x.1=true
def E7(n:Nat)(out:List O)(o:O):Option (List O):=if(Cb o).2.2≠0 then none else if 0<(Cb o).2.1 then some (out++[(0,0,List.replicate n 0,0)])else if(Cb o).2.1<0 then some out else some (out++[(Cb o).1])
def B4(c:O):List O×Int:=if AJ c=false then([],1)else match(Bh c).foldlM (E7 c.2.2.1.length) []with|none=>([],3)|some out=>if 400<out.length then([],3)else(out,0)
abbrev FK.fn(x:O×Unit):List O×Int:=B4 x.1
def Ci(a b:Int):Int:=if a<b then-1 else if b<a then 1 else 0
def BL:List Int→List Int→Int|[],[]=>0|[],_::_=>-1|_::_,[]=>1|x::a,y::b=>if Ci x y=0 then BL a b else Ci x y
def Jm:List Int→Int|[]=>0|n::l=>if n=0 then Jm l else n
def CB(k:Int):Int:=if k=0 then 1 else if k=1 then 0 else 2
def C1(a b:O):Int:=Jm [Ci (CB a.1) (CB b.1),Ci a.2.1 b.2.1,BL a.2.2.1 b.2.2.1,Ci a.2.2.2 b.2.2.2]
abbrev Et.fn(x:Int×Unit):Bool:=false
abbrev Do.fn(x:Int×Int×Unit):Int:=Ci x.1 x.2.1
abbrev GI.fn(x:List Int×Unit):Int:=Jm x.1
abbrev GD.fn(x:List Int×List Int×Unit):Int:=BL x.1 x.2.1
def GW(k:Int):Prop:=k=0∨k=1∨k=2
abbrev Cr.fn(x:O×O×Unit):Int:=C1 x.1 x.2.1
abbrev Cr.pre(x:O×O×Unit):Prop:=GW x.1.1∧GW x.2.1.1
abbrev Fq.fn(x:O×Unit):Bool:=!AJ x.1
abbrev DI.fn(x:O×O×Unit):Bool:=C1 x.1 x.2.1==0
abbrev DI.pre(x:O×O×Unit):Prop:=GW x.1.1∧GW x.2.1.1
def FV{α:Type}(f:α→Bool):List α→Int→Int|[],_=>-1|x::l,i=>if f x then i else FV f l (i+1)
abbrev Ep.fn(x:List O×((O→Prop)×(O→Bool))×Unit):Int:=FV x.2.1.2 x.1 0
abbrev Ep.pre(x:List O×((O→Prop)×(O→Bool))×Unit):Prop:=∀c∈x.1,x.2.1.1 c
abbrev Ch.fn(x:List O×((O→Prop)×(O→Bool))×Unit):Bool:=x.1.any x.2.1.2
abbrev Ch.pre(x:List O×((O→Prop)×(O→Bool))×Unit):Prop:=∀c∈x.1,x.2.1.1 c
def CN.wp(x0:O)(x1:Int)(Q:List Int→Prop):Prop:=(0≤(x0.2.2.1.length:Int)∧x0.2.2.1.length≤(x0.2.2.1.length:Int)∧x0.2.2.1.length*((8:Nat):Int)≤140737488355328∧(x0.2.2.1.length:Int)≤9223372036854775807)∧Lp (σ:=Int×List Int) (λy3 R3=>let v2:=x0.2.2.1.getD y3.1.toNat 0;cond (decide (y3.1<x0.2.2.1.length)) ((0≤y3.1∧y3.1<x0.2.2.1.length)∧(x1≠0∧AB .i64 (Int.tdiv v2 x1))∧(0≤y3.1∧y3.1<y3.2.length)∧Int.toNat y3.1<y3.2.length∧AB .i64 (y3.1+1)∧R3 ( y3.1+1,List.set y3.2 y3.1.toNat (Int.tdiv v2 x1))) (Q y3.2)) (0,.replicate (Int.toNat x0.2.2.1.length) 0)
def DY.wp(x0:Bool)(Q:O×Int→Prop):Prop:=cond x0 (Q (U,1)) (Q (U,-1))
def Dr.wp(x0:O)(Q:O×Int→Prop):Prop:=let v0:=Cc.fn (x0.2.2.1,());Cc.pre (x0.2.2.1,())∧cond (v0.1==0) (Q (DY.fn (decide (0≤x0.2.2.2),()))) (C0.pre (x0.2.2.2,(v0.1,()))∧CN.pre (x0,(v0.1,()))∧Q ((0,(0,( CN.fn (x0,(v0.1,())),(C0.fn (x0.2.2.2,(v0.1,()))).1))),0))
def Dq.wp(x0:O)(Q:O×Int→Prop):Prop:=let v0:=Cc.fn (x0.2.2.1,());let v3:=Int.tdiv x0.2.2.2 (-v0.1);let v5:=CN.fn (x0,(v0.1,()));Cc.pre (x0.2.2.1,())∧( ! v0.1==0=true→! v0.1==0=true∧True)∧( ! v0.1==0=true→! v0.1==0=true∧True)∧((! v0.1==0)=true→(! v0.1==0)=true∧True)∧((! v0.1==0)=true→(! v0.1==0)=true∧(! v0.1==0)=true∧v0.1≠0)∧( ! v0.1==0=true→(! v0.1==0)=true∧True)∧((v0.1==0)=false→(! v0.1==0)=true)∧cond ( v0.1==0||Int.tmod x0.2.2.2 v0.1 !=0) (((v0.1==0)=true→(v0.1==0)=true∧True)∧((v0.1==0)=true→(v0.1==0)=true∧True)∧((v0.1==0)=true→(v0.1==0)=true∧True)∧((v0.1==0)=true→(v0.1==0)=true∧True)∧((v0.1==0)=true→(v0.1==0)=true)∧Q (DY.fn ( v0.1==0&&x0.2.2.2==0,()))) (Lp (σ:=Int) (λy2 R2=>let v2:=x0.2.2.1.getD y2.toNat 0;cond (decide (y2<x0.2.2.1.length)) ((0≤y2∧y2<x0.2.2.1.length)∧cond (v2 !=0) (cond (decide (v2<0)) (AB .i64 (-v0.1)∧CN.pre (x0,(-v0.1,()))∧(-v0.1≠0∧AB .i64 v3)∧Q ((1,(0,( CN.fn (x0,(-v0.1,())),v3))),0)) (CN.pre (x0,(v0.1,()))∧(v0.1≠0∧AB .i64 (Int.tdiv x0.2.2.2 v0.1))∧Q ((1,(0,(v5,Int.tdiv x0.2.2.2 v0.1))),0))) (AB .i64 (y2+1)∧R2 (y2+1))) (CN.pre (x0,(v0.1,()))∧(v0.1≠0∧AB .i64 (Int.tdiv x0.2.2.2 v0.1))∧Q ((1,(0,(v5,Int.tdiv x0.2.2.2 v0.1))),0))) 0)
def Dp.wp(x0:O)(Q:O×Int→Prop):Prop:=let v7:=CV.fn (x0.2.2.2,(x0.2.1,()));(0≤(x0.2.2.1.length:Int)∧x0.2.2.1.length≤(x0.2.2.1.length:Int)∧x0.2.2.1.length*((8:Nat):Int)≤140737488355328∧(x0.2.2.1.length:Int)≤9223372036854775807)∧Lp (σ:=Int×Int×List Int) (λy2 R2=>let v2:=x0.2.2.1.getD y2.1.toNat 0;let v4:=List.set y2.2.2 y2.1.toNat (CV.fn (v2,(x0.2.1,()))).1;let v5:=v4.getD y2.1.toNat 0;cond (decide (y2.1<x0.2.2.1.length)) ((0≤y2.1∧y2.1<x0.2.2.1.length)∧CV.pre (v2,(x0.2.1,()))∧(0≤y2.1∧y2.1<y2.2.2.length)∧Int.toNat y2.1<y2.2.2.length∧(0≤y2.1∧y2.1<v4.length)∧Int.toNat y2.1<v4.length∧Cc.pre ([y2.2.1,v5],())∧AB .i64 (y2.1+1)∧R2 ( y2.1+1,((Cc.fn ([y2.2.1,v5],())).1,v4))) (CV.pre (x0.2.2.2,(x0.2.1,()))∧y2.2.1≠0∧cond (Int.tmod v7.1 y2.2.1 !=0) (Q (DY.fn (false,()))) (cond (x0.2.1==y2.2.1) (Q ((((DY.fn (true,())).1).1,((((DY.fn (true,())).1).2).1,(((DY.fn (true,())).1).2).2)),(DY.fn (true,())).2)) (CN.pre ((0,(0,(y2.2.2,v7.1))),(y2.2.1,()))∧(y2.2.1≠0∧AB .i64 (Int.tdiv v7.1 y2.2.1))∧(y2.2.1≠0∧AB .i64 (Int.tdiv x0.2.1 y2.2.1))∧Q ((2,(Int.tdiv x0.2.1 y2.2.1,( CN.fn ((0,(0,(y2.2.2,v7.1))),(y2.2.1,())),Int.tdiv v7.1 y2.2.1))),0))))) (0,(x0.2.1,.replicate (Int.toNat x0.2.2.1.length) 0))
def BU.wp(x0:O)(Q:O×Int→Prop):Prop:=cond (decide (x0.1=0)) (Dr.pre ((0,x0.2),())∧Q (Dr.fn ((0,x0.2),()))) (cond (decide (x0.1=1)) (Dq.pre ((1,x0.2),())∧Q (Dq.fn ((1,x0.2),()))) (cond (decide (x0.1=2)) (Dp.pre ((2,x0.2),())∧Q (Dp.fn ((2,x0.2),()))) False))
def Cj.wp(x0:O)(Q:O×Int×Int→Prop):Prop:=BU.pre (x0,())∧(((BU.fn (x0,())).2==0)=true→((BU.fn (x0,())).2==0)=true∧True)∧(((BU.fn (x0,())).2==0)=true→((BU.fn (x0,())).2==0)=true∧True)∧(((BU.fn (x0,())).2==0)=true→((BU.fn (x0,())).2==0)=true)∧cond ((BU.fn (x0,())).2==0&&! BW.fn ((((BU.fn (x0,())).1).1,((((BU.fn (x0,())).1).2).1,(((BU.fn (x0,())).1).2).2)),())) (Q (U,(0,3))) (Q ((((BU.fn (x0,())).1).1,((((BU.fn (x0,())).1).2).1,(((BU.fn (x0,())).1).2).2)),((BU.fn (x0,())).2,0)))
def EI.wp(x0:AT)(x1:Int)(Q:AT→Prop):Prop:=(0≤(x0.1.length:Int)∧x0.1.length≤(x0.1.length:Int)∧x0.1.length*((8:Nat):Int)≤140737488355328∧(x0.1.length:Int)≤9223372036854775807)∧AB .i64 (x1-x0.2)∧Lp (σ:=Int×List Int) (λy3 R3=>let v2:=x0.1.getD y3.1.toNat 0;cond (decide (y3.1<x0.1.length)) ((0≤y3.1∧y3.1<x0.1.length)∧AB .i64 (-v2)∧(0≤y3.1∧y3.1<y3.2.length)∧Int.toNat y3.1<y3.2.length∧AB .i64 (y3.1+1)∧R3 ( y3.1+1,List.set y3.2 y3.1.toNat (-v2))) (Q (y3.2,x1-x0.2))) (0,.replicate (Int.toNat x0.1.length) 0)
def DX.wp(x0:O)(Q:List O→Prop):Prop:=let v0:=EI.fn (x0.2.2,(-1,()));EI.pre (x0.2.2,(-1,()))∧cond (x0.1==0) (Q [(0,(0,v0))]) (cond (x0.1==1) (AB .i64 (x0.2.2.2-1)∧Q [(0,(0,(x0.2.2.1,x0.2.2.2-1))),(0,(0,v0))]) (Lp (σ:=Int×List O) (λy2 R2=>let v3:=[(2,(x0.2.1,(x0.2.2.1,x0.2.2.2-y2.1)))];cond (decide (y2.1<x0.2.1)) (AB .i64 (x0.2.2.2-y2.1)∧((y2.2.length+v3.length)*48≤140737488355328∧y2.2.length+v3.length≤9223372036854775807)∧AB .i64 (y2.1+1)∧R2 ( y2.1+1,y2.2++v3)) (Q y2.2)) (1,([]:List O))))
def FK.wp(x0:O)(Q:List O×Int→Prop):Prop:=let v0:=List.length (DX.fn (x0,()));let v4:=[(0,(0,(.replicate (Int.toNat x0.2.2.1.length) 0,0)))];cond (! BW.fn (x0,())) (Q (([]:List O),1)) (DX.pre (x0,())∧Lp (σ:=Int×List O) (λy2 R2=>let v1:=List.getD (DX.fn (x0,())) y2.1.toNat U;let v5:=[(((Cj.fn (v1,())).1).1,((((Cj.fn (v1,())).1).2).1,(((Cj.fn (v1,())).1).2).2))];cond (decide (y2.1<((v0:Nat):Int))) ((0≤y2.1∧y2.1<((v0:Nat):Int))∧Cj.pre (v1,())∧cond (((Cj.fn (v1,())).2).2 !=0) (Q (([]:List O),((Cj.fn (v1,())).2).2)) (cond (decide (0<((Cj.fn (v1,())).2).1)) ((0≤(x0.2.2.1.length:Int)∧x0.2.2.1.length≤(x0.2.2.1.length:Int)∧x0.2.2.1.length*((8:Nat):Int)≤140737488355328∧(x0.2.2.1.length:Int)≤9223372036854775807)∧((y2.2.length+v4.length)*48≤140737488355328∧y2.2.length+v4.length≤9223372036854775807)∧AB .i64 (y2.1+1)∧R2 ( y2.1+1,y2.2++v4)) (cond (decide (((Cj.fn (v1,())).2).1<0)) (AB .i64 (y2.1+1)∧R2 ( y2.1+1,y2.2)) (((y2.2.length+v5.length)*48≤140737488355328∧y2.2.length+v5.length≤9223372036854775807)∧AB .i64 (y2.1+1)∧R2 ( y2.1+1,y2.2++v5))))) (cond (decide (400<(y2.2.length:Int))) (Q (([]:List O),3)) (Q (y2.2,0)))) (0,([]:List O)))
def Et.wp(x0:Int)(Q:Bool→Prop):Prop:=Q (x0 !=x0)
def Do.wp(x0:Int)(x1:Int)(Q:Int→Prop):Prop:=let v1:=Et.fn (x1,());cond (Et.fn (x0,())) (cond v1 (Q 0) (Q (-1))) (cond v1 (Q 1) (cond (decide (x0<x1)) (Q (-1)) (cond (decide (x1<x0)) (Q 1) (Q 0))))
def GI.wp(x0:List Int)(Q:Int→Prop):Prop:=Lp (σ:=Int) (λy2 R2=>let v0:=x0.getD y2.toNat 0;cond (decide (y2<x0.length)) ((0≤y2∧y2<x0.length)∧cond (v0 !=0) (Q v0) (AB .i64 (y2+1)∧R2 (y2+1))) (Q 0)) 0
def GD.wp(x0:List Int)(x1:List Int)(Q:Int→Prop):Prop:=Lp (σ:=Int) (λy3 R3=>let v2:=Do.fn ( x0.getD y3.toNat 0,( x1.getD y3.toNat 0,()));cond (decide (y3<x0.length)) ((0≤y3∧y3<x0.length)∧cond (decide (x1.length≤y3)) (Q 1) ((0≤y3∧y3<x1.length)∧cond (v2 !=0) (Q v2) (AB .i64 (y3+1)∧R3 (y3+1)))) (cond (decide (x0.length<(x1.length:Int))) (Q (-1)) (Q 0))) 0
def Cr.wp(x0:O)(x1:O)(Q:Int→Prop):Prop:=let v1:=[1,0,2];3=List.length (.replicate 3 (0:Int))∧(0≤x0.1∧x0.1<((3:Nat):Int))∧Int.toNat x0.1<v1.length∧(0≤x1.1∧x1.1<((3:Nat):Int))∧Int.toNat x1.1<v1.length∧Q (GI.fn ([Do.fn ( v1.getD x0.1.toNat 0,( v1.getD x1.1.toNat 0,())),Do.fn (x0.2.1,(x1.2.1,())),GD.fn (x0.2.2.1,(x1.2.2.1,())),Do.fn (x0.2.2.2,(x1.2.2.2,()))],()))
def Fq.wp(x0:O)(Q:Bool→Prop):Prop:=Q ! BW.fn (x0,())
def DI.wp(x0:O)(x1:O)(Q:Bool→Prop):Prop:=Cr.pre (x0,(x1,()))∧Q ( Cr.fn (x0,(x1,()))==0)
def Ep.wp(x0:List O)(x1:(O→Prop)×(O→Bool))(Q:Int→Prop):Prop:=Lp (σ:=Int) (λy3 R3=>let v0:=x0.getD y3.toNat U;cond (decide (y3<x0.length)) ((0≤y3∧y3<x0.length)∧x1.1 v0∧cond (x1.2 v0) (Q y3) (AB .i64 (y3+1)∧R3 (y3+1))) (Q (-1))) 0
def Ch.wp(x0:List O)(x1:(O→Prop)×(O→Bool))(Q:Bool→Prop):Prop:=Ep.pre (x0,((λ(a3:O)=>x1.1 a3,λ(a3:O)=>x1.2 a3),()))∧Q (decide (0≤Ep.fn (x0,((λ(a3:O)=>x1.1 a3,λ(a3:O)=>x1.2 a3),()))))
theorem linB.ints{l:AT}(h:linB l):DM l.1:=λn hn=>by have :=h.2.1 n hn;unfold Bj at this;omega
theorem QZ(n g:Int):(n.tdiv g).natAbs≤n.natAbs:=by rw[Int.natAbs_tdiv];exact Nat.div_le_self _ _
theorem Ju{n g:Int}(h:-9223372036854775807≤n)(h2:n≤9223372036854775807):AB .i64 (n.tdiv g):=by have :=QZ n g;exact⟨by omega,by omega⟩
theorem CN.spec(c:O)(g:Int)(hp:CN.pre (c,g,())):CN.wp c g λr=>r=CN.fn (c,g,()):=by
 obtain⟨h1,h2,h3⟩:=hp;simp only at h1 h2 h3;simp only[CN.wp,yQ];refine⟨⟨by omega,by omega,by omega,by omega⟩,?_⟩;refine Lp.fill c.2.2.1 0 0 (·.tdiv g) (by omega) (λi out R hi hi' hf ho hR=>?_) λR=>?_;·simp only[yO hi',yQ];have hn:=h3 _ (AX (d:=0) hi);exact⟨⟨by omega,hi'⟩,⟨h1,Ju hn.1 hn.2⟩,⟨by omega,by omega⟩,by omega,hf,hR⟩
 ·simp only[yY,yZ,yN]
theorem DY.spec(b:Bool):DY.wp b λr=>r=DY.fn (b,()):=by cases b<;>rfl
theorem NL:∀{l:List Int}{g:Nat},l.foldl (λg n=>Nat.gcd g n.natAbs) g∣g∧∀n∈l,l.foldl (λg n=>Nat.gcd g n.natAbs) g∣n.natAbs
 |[],g=>⟨Nat.dvd_refl _,λn hn=>by cases hn⟩|m::l,g=>by
  obtain⟨h1,h2⟩:=NL (l:=l) (g:=Nat.gcd g m.natAbs);refine⟨Nat.dvd_trans h1 (Nat.gcd_dvd_left _ _),λn hn=>?_⟩;rcases List.mem_cons.1 hn with rfl|hn;·exact Nat.dvd_trans h1 (Nat.gcd_dvd_right _ _)
  ·exact h2 n hn
theorem S6{l:List Int}(h:AO l=0):∀n∈l,n=0:=λn hn=>by have :=(NL (l:=l) (g:=0)).2 n hn;have h':l.foldl (λg n=>Nat.gcd g n.natAbs) 0=0:=h;rw[h',Nat.zero_dvd]at this;omega
theorem Dr.spec(c:O)(hp:Dr.pre (c,())):Dr.wp c λr=>r=Dr.fn (c,()):=by
 have hb:linB c.2.2:=hp;obtain⟨h1,h2,h3⟩:=id hb;unfold Bj at h3;simp only[Dr.wp,Cc.fn,Dr.fn,FM,DY.fn];refine⟨hb.ints,?_⟩;by_cases hg:AO c.2.2.1=0;·rw[hg];simp
 ·rw[beq_eq_false_iff_ne.2 (show((AO c.2.2.1:Nat):Int)≠0 by omega),yP hg];refine⟨⟨by show-9223372036854775807≤c.2.2.2;omega,by show c.2.2.2≤9223372036854775807;omega⟩,⟨by show((AO c.2.2.1:Nat):Int)≠0;omega,h1,hb.ints⟩,?_⟩;simp only[CN.fn,C0.fn];rw[yP (show¬((AO c.2.2.1:Nat):Int)<1 by omega)]
theorem Pf{l:List Int}{i:Nat}(h:∀j,j<i→l.getD j 0=0):Ct l=Ct (l.drop i):=by induction i generalizing l with|zero=>rfl|succ i ih=>cases l with|nil=>rfl|cons n l=>have h0:=h 0 (by omega);simp at h0;simp only[Ct,yS h0,ZBW];exact ih λj hj=>by have :=h (j+1) (by omega);simpa using this
theorem Dq.spec(c:O)(hp:Dq.pre (c,())):Dq.wp c λr=>r=Dq.fn (c,()):=by
 have hb:linB c.2.2:=hp;obtain⟨h1,h2,h3⟩:=id hb;unfold Bj at h3;have Hl:AO c.2.2.1≤9223372036854775807:=Pp hb.ints;simp only[Dq.wp,Cc.fn,DY.fn,CN.fn];have hg:∀b:Bool,b=true→b=true∧True:=λb h=>⟨h,trivial⟩;refine⟨hb.ints,hg _,hg _,hg _,?_,hg _,λh=>by rw[h];rfl,?_⟩;·intro h;refine⟨h,h,?_⟩;intro e;rw[e]at h;simp at h
 have hfn:Dq.fn (c,())=Bt c:=rfl;by_cases hz:AO c.2.2.1=0;·rw[hfn,Bt,yS (.inl hz),hz];simp
 ·have HV:((AO c.2.2.1:Nat):Int)≠0:=by omega
  rw[beq_eq_false_iff_ne.2 HV];by_cases hm:c.2.2.2.tmod (AO c.2.2.1)≠0;·rw[bne_iff_ne.2 hm,hfn,Bt,yS (.inr hm)];simp[hz]
  ·have hm':c.2.2.2.tmod (AO c.2.2.1)=0:=by simpa using hm
   rw[hm',zJ,ZBL,yN,hfn,Bt,yP (by simp[hz,hm'])];have Pz:∀g:Int,g≠0→CN.pre (c,g,()):=λg hg=>⟨hg,h1,hb.ints⟩;have Ka:∀g:Int,AB .i64 (c.2.2.2.tdiv g):=λg=>Ju (by omega) (by omega);refine Lp.iter c.2.2.1.length (λi y=>y=(i:Int)∧∀j,j<i→c.2.2.1.getD j 0=0) ⟨rfl,λj hj=>absurd hj (by omega)⟩ ?_;rintro i y hle⟨rfl,hi⟩R hR;by_cases e:i<c.2.2.1.length
   ·rw[yO (show(i:Int)<(c.2.2.1.length:Int)by omega)];refine⟨⟨by omega,by omega⟩,?_⟩;simp only[yQ];by_cases hn:c.2.2.1.getD i 0=0
    ·simp only[hn,zJ,yN];refine⟨⟨by omega,by omega⟩,hR e _ ⟨by omega,λj hj=>?_⟩⟩;by_cases ej:j=i;·subst ej;exact hn
     ·exact hi j (by omega)
    ·simp only[bne_iff_ne.2 hn,yR];have hfn:Ct c.2.2.1=decide (c.2.2.1.getD i 0<0):=by rw[Pf hi,ZAH e];rw[A7 e]at hn;simp only[Ct,yP hn,A7 e]
     by_cases EM:c.2.2.1.getD i 0<0;·rw[yO EM]at hfn;simp only[yO EM,yR];refine⟨⟨by omega,by omega⟩,Pz _ (by omega),⟨by omega,Ka _⟩,?_⟩;simp only[Bo,hfn,ZA4]
     ·rw[yV EM]at hfn;simp only[yV EM,yN];refine⟨Pz _ HV,⟨HV,Ka _⟩,?_⟩;simp[Bo,hfn]
   ·have :i=c.2.2.1.length:=by omega
    subst this;rw[yV (yY _)];refine⟨Pz _ HV,⟨HV,Ka _⟩,?_⟩;have hfn:Ct c.2.2.1=false:=by rw[Pf hi,ZA2];rfl
    simp[Bo,hfn]
theorem BN{α:Type}{l:List α}{i:Nat}(d:α)(h:i<l.length):l.take (i+1)=l.take i++[l.getD i d]:=by rw[A7 h];simp
theorem kS{α β:Type}{l:List α}{d:α}{z:β}{f:α→β}{i:Nat}(e:i<l.length):((l.take i).map f++List.replicate (l.length-i) z).set i (f (l.getD i d))=(l.take (i+1)).map f++List.replicate (l.length-(i+1)) z:=by
 have h1:l.length-i=l.length-(i+1)+1:=by omega
 rw[h1,ZBY,ZBh _ _ (by simp;omega)];have h3:i-((l.take i).map f).length=0:=by simp;omega
 rw[h3,ZCN,BN d e,ZAa,ZAO];rfl
theorem lE(m:Int)(l:List Int)(n:Int):AO (m::(l++[n]))=Nat.gcd (AO (m::l)) n.natAbs:=by simp only[AO,ZAg,ZBF,List.foldl_nil]
theorem lF(a b:Int):AO [a,b]=Nat.gcd a.natAbs b.natAbs:=by simp[AO]
theorem NM{m:Int}(h:1≤m)(l:List Int):0<AO (m::l):=by
 rcases ZDo (AO (m::l))with h0|h0;·have :=S6 h0 m (by simp);omega
 ·exact h0
theorem S5{m:Int}(h:1≤m)(l:List Int):AO (m::l)≤m.toNat:=by have :=Xt (l:=l) m.natAbs (by omega);simp only[AO,ZAg,ZCU];omega
theorem Dp.spec(c:O)(hp:Dp.pre (c,())):Dp.wp c λr=>r=Dp.fn (c,()):=by
 obtain⟨hb,Dd,HI⟩:=hp;simp only at hb Dd HI;obtain⟨h1,h2,h3⟩:=id hb;unfold Bj at h3;have hfn:Dp.fn (c,())=EJ c:=rfl;simp only[Dp.wp,yQ];refine⟨⟨by omega,by omega,by omega,by omega⟩,?_⟩;have HJ:∀n,CV.fn (n,c.2.1,())=(n%c.2.1,0):=λn=>by simp only[CV.fn];rw[yP (by omega)]
 simp only[HJ];refine Lp.iter c.2.2.1.length (λi y=>y=((i:Int),((AO (c.2.1::(c.2.2.1.take i).map (·%c.2.1)):Nat):Int),(c.2.2.1.take i).map (·%c.2.1)++List.replicate (c.2.2.1.length-i) 0)) ?_ ?_
 ·have :AO [c.2.1]=c.2.1.natAbs:=by simp[AO]
  simp[this];omega
 rintro i y hle rfl R hR;have hr:∀n:Int,0≤n%c.2.1∧n%c.2.1<c.2.1:=λn=>⟨ZBS _ (by omega),ZBH _ (by omega)⟩;have Hl:=S5 Dd ((c.2.2.1.take i).map (·%c.2.1));by_cases e:i<c.2.2.1.length
 ·have Lt:=kS (z:=(0:Int)) (f:=(·%c.2.1)) (d:=(0:Int)) e;simp only[yO (show(i:Int)<(c.2.2.1.length:Int)by omega),yQ,yR];rw[Lt];have hlen:((c.2.2.1.take (i+1)).map (·%c.2.1)++List.replicate (c.2.2.1.length-(i+1)) (0:Int)).length=c.2.2.1.length:=by simp;omega
  have A4:((c.2.2.1.take (i+1)).map (·%c.2.1)++List.replicate (c.2.2.1.length-(i+1)) (0:Int)).getD i 0=c.2.2.1.getD i 0%c.2.1:=by rw[A7 (by rw[hlen];exact e),ZBn (by simp;omega),A7 e];simp
  rw[A4];have hq:=hr (c.2.2.1.getD i 0);refine⟨⟨by omega,by omega⟩,by show c.2.1≤9223372036854775807;omega,⟨by omega,by simp;omega⟩,by simp;omega,⟨by omega,by rw[hlen];omega⟩,by rw[hlen];exact e,?_,⟨by omega,by omega⟩,hR e _ ?_⟩;·intro n hn;simp only[zO,ZBo,ZCY]at hn;rcases hn with rfl|rfl<;>constructor<;>omega
  ·simp only[Cc.fn,lF,ZDj];rw[BN 0 e,ZAa,ZAK,ZDC,lE];rfl
 ·have :i=c.2.2.1.length:=by omega
  subst this;simp only[zA,ZBT,ZBs,ZAT,yY,yZ,yN];have Ag:=NM Dd (c.2.2.1.map (·%c.2.1));rw[zA]at Hl;have TY:As c=AO (c.2.1::c.2.2.1.map (·%c.2.1)):=rfl;rw[←TY]at Ag Hl⊢;have hq:=hr c.2.2.2;refine⟨by show c.2.1≤9223372036854775807;omega,by omega,?_⟩;rw[hfn,EJ];by_cases ht:(c.2.2.2%c.2.1).tmod (As c)≠0;·rw[bne_iff_ne.2 ht,yS ht];rfl
  ·rw[yP ht];have ht:(c.2.2.2%c.2.1).tmod (As c)=0:=by simpa using ht
   rw[ht,zJ];by_cases he:c.2.1=As c;·rw[yS he];simp only[beq_iff_eq.2 he,yR,yN]
   ·rw[yP he,beq_eq_false_iff_ne.2 he];refine⟨⟨by show((As c:Nat):Int)≠0;omega,by simpa using h1,λn hn=>?_⟩,⟨by omega,Ju (by omega) (by omega)⟩,⟨by omega,Ju (by omega) (by omega)⟩,rfl⟩;simp only[ZAb]at hn;obtain⟨a,_,rfl⟩:=hn;have :=hr a;constructor<;>omega
theorem BU.spec(c:O)(hp:BU.pre (c,())):BU.wp c λr=>r=BU.fn (c,()):=by
 obtain⟨hk,hl⟩:OE c∧linB c.2.2:=hp;obtain⟨k,r⟩:=c;simp only[BU.wp,BU.fn,AV,Dr.fn,Dq.fn,Dp.fn];rcases hk with h|h|⟨h,h2,h3⟩;·have h:k=0:=h;subst h;exact⟨hl,rfl⟩
 ·have h:k=1:=h;subst h;exact⟨hl,rfl⟩
 ·have h:k=2:=h;subst h;exact⟨⟨hl,h2,h3⟩,rfl⟩
theorem Cj.spec(c:O)(hp:Cj.pre (c,())):Cj.wp c λr=>r=Cj.fn (c,()):=by
 simp only[Cj.wp,BU.fn,BW.fn,Cj.fn,Cb];have hg:∀b:Bool,b=true→b=true∧True:=λb h=>⟨h,trivial⟩;refine⟨hp,hg _,hg _,λh=>h,?_⟩;by_cases h1:(AV c).2=0;·cases h2:AJ (AV c).1 with|true=>simp[h1]|false=>simp[h1]
 ·simp[h1]
theorem EI.spec(l:AT)(k:Int)(hp:EI.pre (l,k,())):EI.wp l k λr=>r=EI.fn (l,k,()):=by
 obtain⟨⟨h1,h2,h3⟩,h4⟩:=hp;simp only at h1 h2 h3 h4;unfold Bj at h3 h4;simp only[EI.wp,yQ];refine⟨⟨by omega,by omega,by omega,by omega⟩,⟨by omega,by omega⟩,?_⟩;refine Lp.fill l.1 0 0 (λn=>-n) (by omega) (λi out R hi hi' hf ho hR=>?_) λR=>?_;·simp only[yO hi',yQ];have hn:=h2 _ (AX (d:=0) hi);unfold Bj at hn;exact⟨⟨by omega,hi'⟩,⟨by omega,by omega⟩,⟨by omega,by omega⟩,by omega,hf,hR⟩
 ·simp only[yY,yZ,yN];rfl
theorem Bw.bound{n:Int}(h:Bw n=true):-1048576≤n∧n≤1048576:=by simpa[Bw]using h
theorem BI.b{l:AT}(h:BI l=true):l.1.length≤12∧(∀n∈l.1,-1048576≤n∧n≤1048576)∧-1048576≤l.2∧l.2≤1048576:=by simp only[BI,zN,ZAP,ZAp]at h;exact⟨by omega,λn hn=>Bw.bound (h.1 n hn),Bw.bound h.2.2⟩
theorem AJ.lin{c:O}(h:AJ c=true):BI c.2.2=true:=by
 unfold AJ at h;split at h;·simp only[zN]at h;exact h.2
 ·split at h;·simp only[zN]at h;exact h.2
  ·cases h
theorem AJ.kind{c:O}(h:AJ c=true):c.1=0∧c.2.1=0∨c.1=1∧c.2.1=0∨c.1=2∧1≤c.2.1∧c.2.1≤512:=by
 unfold AJ at h;split at h
 ·rename_i hk;simp only[zN,ZB0]at h;rcases hk with hk|hk;·exact .inl ⟨hk,h.1⟩
  ·exact .inr (.inl ⟨hk,h.1⟩)
 ·split at h;·rename_i hk;simp only[zN,ZAp]at h;exact .inr (.inr ⟨hk,h.1.1,h.1.2⟩)
  ·cases h
theorem BI.linB{l:AT}(h:BI l=true):linB l:=by have :=BI.b h;exact⟨by omega,λn hn=>by have :=this.2.1 n hn;exact⟨by omega,by omega⟩,by omega,by omega⟩
theorem AJ.condB{c:O}(h:AJ c=true):condB c:=by
 refine⟨?_,BI.linB (AJ.lin h)⟩;rcases AJ.kind h with h|h|h;·exact .inl h.1
 ·exact .inr (.inl h.1)
 ·exact .inr (.inr ⟨h.1,h.2.1,by omega⟩)
theorem DX.spec(c:O)(hp:DX.pre (c,())):DX.wp c λr=>r=DX.fn (c,()):=by
 have hv:AJ c=true:=hp;have hl:=BI.b (AJ.lin hv);simp only[DX.wp,EI.fn,DX.fn,Bh];refine⟨⟨BI.linB (AJ.lin hv),show Bj (-1)from⟨by decide,by decide⟩⟩,?_⟩;rcases AJ.kind hv with h|h|h;·rw[h.1];rfl
 ·rw[h.1];exact⟨⟨by omega,by omega⟩,rfl⟩
 ·rw[h.1];simp only[show((2:Int)==0)=false from rfl,show((2:Int)==1)=false from rfl,yN];refine Lp.iter (c.2.1-1).toNat (λi y=>y=((i:Int)+1,(List.range i).map λ(r:Nat)=>((2,c.2.1,c.2.2.1,c.2.2.2-((r:Int)+1)):O))) (by simp) ?_;rintro i y hle rfl R hR;by_cases e:(i:Int)+1<c.2.1;·simp only[yO e,yR,zL,ZB5,yX,zF];refine⟨⟨by omega,by omega⟩,⟨by omega,by omega⟩,⟨by omega,by omega⟩,hR (by omega) _ ?_⟩;simp[ZDJ]
  ·simp only[yV e,yN];have :i=(c.2.1-1).toNat:=by omega
   subst this;simp
theorem Q7(b:Bool):(Cs b).2=1∨(Cs b).2=-1:=by cases b<;>simp[Cs]
theorem bM(c:O):(AV c).2=0∨(AV c).2=1∨(AV c).2=-1:=by
 unfold AV FM Bt EJ;split
 ·split;·exact .inr (Q7 _)
  ·exact .inl rfl
 ·split
  ·split;·exact .inr (Q7 _)
   ·exact .inl rfl
  ·split;·exact .inr (Q7 _)
   ·split;·exact .inr (Q7 _)
    ·exact .inl rfl
theorem rK(c:O):(Cb c).2.2=0∨(Cb c).2.2=3:=by
 unfold Cb;split;·exact .inr rfl
 ·exact .inl rfl
theorem aW{c:O}(h:AJ c=true):(Bh c).length≤512:=by
 unfold Bh;rcases AJ.kind h with h|h|h;·rw[yS h.1];simp
 ·rw[yP (by omega),yS h.1];simp
 ·rw[yP (by omega),yP (by omega)];simp;omega
theorem Ut{c:O}(h:AJ c=true):∀o∈Bh c,condB o:=by
 have hl:=BI.b (AJ.lin h);have Nw:linB (GX c.2.2 (-1)):=by
  refine⟨by simp[GX];omega,λn hn=>?_,?_,?_⟩;·simp only[GX,ZAb]at hn;obtain⟨a,ha,rfl⟩:=hn;have :=hl.2.1 a ha;exact⟨by omega,by omega⟩
  ·simp only[GX];omega
  ·simp only[GX];omega
 have hb:∀n∈c.2.2.1,Bj n:=λn hn=>by have :=hl.2.1 n hn;exact⟨by omega,by omega⟩
 intro o ho;unfold Bh at ho;rcases AJ.kind h with h|h|h;·rw[yS h.1]at ho;simp only[zC]at ho;subst ho;exact⟨.inl rfl,Nw⟩
 ·rw[yP (by omega),yS h.1]at ho;simp only[zO,ZBo,ZCY]at ho;rcases ho with rfl|rfl;·exact⟨.inl rfl,by simp only;omega,hb,by simp only;omega,by simp only;omega⟩
  ·exact⟨.inl rfl,Nw⟩
 ·rw[yP (by omega),yP (by omega)]at ho;simp only[ZAb,ZDU]at ho;obtain⟨r,hr,rfl⟩:=ho;exact⟨.inr (.inr ⟨rfl,h.2.1,by simp only;omega⟩),by simp only;omega,hb,by simp only;omega,by simp only;omega⟩
theorem aO{n:Nat}{out:List O}{o:O}{out':List O}(h:E7 n out o=some out'):out'.length≤out.length+1:=by
 unfold E7 at h;split at h;·cases h
 ·split at h;·cases h;simp
  ·split at h;·cases h;omega
   ·cases h;simp
theorem Pl{α β:Type}{f:List β→α→Option (List β)}(hf:∀t x t',f t x=some t'→t'.length≤t.length+1):∀(l:List α)(a t:List β),l.foldlM f a=some t→t.length≤a.length+l.length|[],a,t,h=>by cases h;simp|x::l,a,t,h=>by rw[zQ]at h;cases hx:f a x with|none=>rw[hx]at h;cases h|some b=>rw[hx]at h;have :=Pl hf l b t h;have :=hf a x b hx;simp only[yX];omega
theorem FK.spec(c:O):FK.wp c λr=>r=FK.fn (c,()):=by simp only[FK.wp,BW.fn,FK.fn,B4,DX.fn,Cj.fn,yQ];cases hv:AJ c with|false=>simp|true=>
 simp only[zU,yN,ZBG,ZAY];have hl:=BI.b (AJ.lin hv);have Du:=aW hv;have Cu:=Ut hv;refine⟨hv,?_⟩;refine Lp.foldO (Bh c) U (E7 c.2.2.1.length) [] (by omega) (λi t R hi hi' hf ht hR hn=>?_) λt R ht=>?_
 ·have Iz:t.length≤512:=by have :=Pl (λ_ _ _ h=>aO h) _ _ _ ht;simp only[zG,zF]at this;omega
  have A9:=AX (d:=U) hi;simp only[yO hi',yQ,yR];refine⟨⟨by omega,hi'⟩,Cu _ A9,?_⟩;unfold E7 at hR;rcases rK ((Bh c).getD i U)with h0|h0
  ·simp only[h0,zJ,yN,ZDM,ZBj,ZAY]at hR⊢;by_cases h1:0<(Cb ((Bh c).getD i U)).2.1;·simp only[h1,ZA4]at hR;simp only[yO h1,yR,yX,zF];exact⟨⟨by omega,by omega,by omega,by omega⟩,⟨by omega,by omega⟩,hf,hR _ rfl⟩
   ·simp only[h1,ZAY]at hR;simp only[yV h1,yN];by_cases h2:(Cb ((Bh c).getD i U)).2.1<0;·simp only[h2,ZA4]at hR;simp only[yO h2,yR];exact⟨hf,hR _ rfl⟩
    ·simp only[h2,ZAY]at hR;simp only[yV h2,yN,yX,zF];exact⟨⟨by omega,by omega⟩,hf,hR _ rfl⟩
  ·simp only[h0];rw[hn (by unfold E7;rw[yS (by rw[h0];decide)])];rfl
 ·simp only[yY,yZ,yN];rw[ht];simp only;by_cases h4:400<t.length;·rw[yS h4,yO (show(400:Int)<(t.length:Int)by omega)];rfl
  ·rw[yP h4,yV (show¬(400:Int)<(t.length:Int)by omega)];rfl
theorem Et.spec(n:Int):Et.wp n λr=>r=Et.fn (n,()):=by simp[Et.wp,Et.fn]
theorem Do.spec(a b:Int):Do.wp a b λr=>r=Do.fn (a,b,()):=by
 simp only[Do.wp,Et.fn,Do.fn,Ci,yN];by_cases h:a<b;·simp[h]
 ·by_cases h2:b<a<;>simp[h,h2]
theorem sG{l:List Int}{i:Nat}(h:∀j,j<i→l.getD j 0=0):Jm l=Jm (l.drop i):=by induction i generalizing l with|zero=>rfl|succ i ih=>cases l with|nil=>rfl|cons n l=>have h0:=h 0 (by omega);simp at h0;simp only[Jm,yS h0,ZBW];exact ih λj hj=>by have :=h (j+1) (by omega);simpa using this
theorem GI.spec(l:List Int)(hl:l.length≤9223372036854775807):GI.wp l λr=>r=GI.fn (l,()):=by
 refine Lp.iter l.length (λi y=>y=(i:Int)∧∀j,j<i→l.getD j 0=0) ⟨rfl,λj hj=>absurd hj (by omega)⟩ ?_;rintro i y hle⟨rfl,hi⟩R hR;have hd:=sG hi;by_cases e:i<l.length
 ·simp only[yO (show(i:Int)<(l.length:Int)by omega),yQ,yR];refine⟨⟨by omega,by omega⟩,?_⟩;rw[ZAH e]at hd;by_cases h0:l.getD i 0=0
  ·simp only[h0,zJ,yN];refine⟨⟨by omega,by omega⟩,hR e _ ⟨by omega,λj hj=>?_⟩⟩;by_cases ej:j=i;·subst ej;exact h0
   ·exact hi j (by omega)
  ·simp only[bne_iff_ne.2 h0,yR];rw[A7 e]at h0⊢;simp only[Jm,yP h0]at hd;exact hd.symm
 ·have :i=l.length:=by omega
  subst this;simp only[yY,yZ,yN];rw[ZA2]at hd;exact hd.symm
theorem GD.spec(a b:List Int)(hl:a.length≤9223372036854775807):GD.wp a b λr=>r=GD.fn (a,b,()):=by
 refine Lp.iter a.length (λi y=>y=(i:Int)∧i≤b.length∧BL a b=BL (a.drop i) (b.drop i)) ⟨rfl,ZAl _,rfl⟩ ?_;rintro i y hle⟨rfl,Ym,hd⟩R hR;have hfn:GD.fn (a,b,())=BL a b:=rfl;rw[hfn];by_cases e:i<a.length
 ·simp only[yO (show(i:Int)<(a.length:Int)by omega),yQ,yR,Do.fn];refine⟨⟨by omega,by omega⟩,?_⟩;rw[ZAH e]at hd;by_cases hb:i<b.length
  ·rw[yV (show¬(b.length:Int)≤(i:Int)by omega)];rw[ZAH hb]at hd;refine⟨⟨by omega,by omega⟩,?_⟩;rw[A7 e,A7 hb];simp only[BL]at hd;by_cases hc:Ci a[i] b[i]=0;·rw[yS hc]at hd;rw[hc,zJ];exact⟨⟨by omega,by omega⟩,hR e _ ⟨by omega,hb,hd⟩⟩
   ·rw[yP hc]at hd;rw[bne_iff_ne.2 hc];exact hd.symm
  ·rw[yO (show(b.length:Int)≤(i:Int)by omega)];rw[ZCX (show b.length≤i by omega)]at hd;exact hd.symm
 ·have :i=a.length:=by omega
  subst this;simp only[yY,yZ,yN];rw[ZA2]at hd;by_cases hb:a.length<b.length;·rw[yO (show(a.length:Int)<(b.length:Int)by omega)];rw[ZAH hb]at hd;exact hd.symm
  ·rw[yV (show¬(a.length:Int)<(b.length:Int)by omega)];rw[ZCX (show b.length≤a.length by omega)]at hd;exact hd.symm
theorem Cr.spec(a b:O)(hp:Cr.pre (a,b,())):Cr.wp a b λr=>r=Cr.fn (a,b,()):=by obtain⟨ha,hb⟩:=hp;obtain⟨ka,ma,ca⟩:=a;obtain⟨kb,mb,cb⟩:=b;simp only[Cr.wp,Cr.fn,C1,GI.fn,Do.fn,GD.fn];rcases ha with h|h|h<;>rcases hb with h'|h'|h'<;>(simp only at h h';subst h h';simp[CB])
theorem Fq.spec(c:O):Fq.wp c λr=>r=Fq.fn (c,()):=rfl
theorem DI.spec(a b:O)(hp:DI.pre (a,b,())):DI.wp a b λr=>r=DI.fn (a,b,()):=⟨hp,rfl⟩
theorem ZO{α:Type}{f:α→Bool}{l:List α}{d:α}{i:Nat}(h:∀j,j<i→f (l.getD j d)=false)(hi:i≤l.length)(k:Int):FV f l k=FV f (l.drop i) (k+i):=by induction i generalizing l k with|zero=>simp|succ i ih=>cases l with|nil=>simp at hi|cons x l=>have h0:=h 0 (by omega);simp at h0;simp only[FV,h0,zY,ZAY,ZBW];rw[ih (λj hj=>by have :=h (j+1) (by omega);simpa using this) (by simpa using hi)];congr 1;omega
theorem Ep.spec(l:List O)(f:(O→Prop)×(O→Bool))(hl:l.length≤9223372036854775807)(hp:Ep.pre (l,f,())):Ep.wp l f λr=>r=Ep.fn (l,f,()):=by
 refine Lp.iter l.length (λi y=>y=(i:Int)∧∀j,j<i→f.2 (l.getD j U)=false) ⟨rfl,λj hj=>absurd hj (by omega)⟩ ?_;rintro i y hle⟨rfl,hi⟩R hR;have hd:=ZO hi hle 0;have hfn:Ep.fn (l,f,())=FV f.2 l 0:=rfl;rw[hfn];by_cases e:i<l.length;·simp only[yO (show(i:Int)<(l.length:Int)by omega),yQ,yR];refine⟨⟨by omega,by omega⟩,hp _ (AX e),?_⟩;rw[ZAH e]at hd;cases h0:f.2 (l.getD i U)with|true=>rw[A7 e]at h0;simp only[FV,h0,ZA4]at hd;show(i:Int)=_;omega|false=>
  refine⟨⟨by omega,by omega⟩,hR e _ ⟨by omega,λj hj=>?_⟩⟩;by_cases ej:j=i;·subst ej;exact h0
  ·exact hi j (by omega)
 ·have :i=l.length:=by omega
  subst this;simp only[yY,yZ,yN];rw[ZA2]at hd;exact hd.symm
theorem UI{α:Type}{f:α→Bool}:∀{l:List α}{k:Int},0≤k→decide (0≤FV f l k)=l.any f
 |[],k,_=>by simp[FV]|x::l,k,hk=>by
  simp only[ZCz];by_cases h:f x=true;·simp[FV,h,hk]
  ·rw[show FV f (x::l) k=FV f l (k+1)by simp[FV,h],UI (by omega)];simp[h]
theorem Ch.spec(l:List O)(f:(O→Prop)×(O→Bool))(hp:Ch.pre (l,f,())):Ch.wp l f λr=>r=Ch.fn (l,f,()):=⟨hp,UI (ZAr 0)⟩
def Bg(l:List Int)(s:Int):List Int:=l.flatMap λn=>BS (s*n)++[44]
def Cz(p:List O):List Int:=p.flatMap λc=>BS c.1++[58]++BS c.2.1++[58]++Bg c.2.2.1 1++BS c.2.2.2++[59]
abbrev Br.fn(x:List Int×Int×Unit):ByteArray:=B6 (Bg x.1 x.2.1)
abbrev Br.pre(x:List Int×Int×Unit):Prop:=x.1.length≤1048576∧DM x.1∧(x.2.1=1∨x.2.1=-1)
abbrev BT.fn(x:List O×Unit):ByteArray:=B6 (Cz x.1)
def aJ(p:List O):Prop:=p.length≤1048576∧∀c∈p,c.2.2.1.length≤4096∧DM c.2.2.1∧DM [c.1,c.2.1,c.2.2.2]
abbrev BT.pre(x:List O×Unit):Prop:=aJ x.1
def Ec(C:List Int)(out:List O):Option Nat:=out.findIdx? λd=>decide (d.1=0∧d.2.2.1=C)
def Cn(d:O)(k:Int):O:=(d.1,d.2.1,d.2.2.1,min d.2.2.2 k)
def Ee(out:List O)(c:O):List O:=if c.1≠0 then out++[c]else match Ec c.2.2.1 out with|some i=>out.set i (Cn (out.getD i U) c.2.2.2)|none=>out++[c]
def B8(l:List O):List O:=l.foldl Ee []
abbrev Dk.fn(x:List O×Unit):List O:=B8 x.1
def Zw(l:List O):Prop:=l.length≤1048576∧∀c∈l,c.2.2.1.length≤1048576∧DM c.2.2.1
abbrev Dk.pre(x:List O×Unit):Prop:=Zw x.1
def Al(C:List Int):List Int:=C.map λn=>-n
def FY(C:List Int):List O→Nat→Option Nat|[],_=>none|d::l,i=>match FY C l (i+1)with|some j=>some j|none=>if d.1=0∧d.2.2.1=C then some i else none
def GZ(l:List O)(st:List O×(Int→Option Bool))(ic:Nat×O):Option (List O×(Int→Option Bool)):=if(st.2 (ic.1:Int)).getD false then some st else match if ic.2.1≠0 then none else FY (Al ic.2.2.2.1) l 0 with|none=>some (st.1++[ic.2],st.2)|some j=>if ic.2.2.2.2+(l.getD j U).2.2.2<0 then none else if ic.2.2.2.2+(l.getD j U).2.2.2=0 then some (st.1++[(AV (1,0,ic.2.2.2)).1],CA st.2 (j:Int) true)else some (st.1++[ic.2],st.2)
def Ha(l:List O):List (Nat×O):=(List.range l.length).map λi=>(i,l.getD i U)
def E9(l:List O):Option (List O):=((Ha l).foldlM (GZ l) ([],λ_=>none)).map (·.1)
abbrev DS.fn(x:List O×Unit):List O×Bool:=match E9 x.1 with|none=>([],true)|some out=>(out,false)
abbrev DS.pre(x:List O×Unit):Prop:=A2 x.1
def Da(C:List Int)(l:List O):Option Int:=(l.reverse.find? λd=>decide (d.1=1∧d.2.2.1=C)).map (·.2.2.2)
def Gp(seen:List O)(c:O):Option (List O):=if c.1≠1 then some (seen++[c])else match Da c.2.2.1 seen with|some n=>if n≠c.2.2.2 then none else some (seen++[c])|none=>some (seen++[c])
def IZ(l:List O)(out:List O)(c:O):Option (List O):=if c.1≠0 then some (out++[c])else match Da c.2.2.1 l with|some n=>if c.2.2.2<n then none else some out|none=>match Da (Al c.2.2.1) l with|some n=>if c.2.2.2+n<0 then none else some out|none=>some (out++[c])
def FE(l:List O):Option (List O):=match l.foldlM Gp []with|none=>none|some _=>l.foldlM (IZ l) []
def DA(c:O):List O→List O|[]=>[c]|d::l=>if C1 d c<0 then d::DA c l else if d=c then d::l else c::d::l
def Au(l:List O):List O:=l.foldl (λout c=>DA c out) []
def Aa(p:List O):List O×Bool×Int:=if(p.map AV).any λr=>decide (r.2<0)then([],true,0)else let l:=((p.map AV).filter λr=>decide (r.2=0)).map (·.1);match(E9 (B8 l)).bind FE with|none=>([],true,0)|some out=>if l.any (λc=>!AJ c)||decide (96<(Au out).length)then([],false,3)else(Au out,false,0)
abbrev AE.fn(x:List O×Unit):List O×Bool×Int:=Aa x.1
abbrev AE.pre(x:List O×Unit):Prop:=A2 x.1
theorem SF:∀(u:Nat),∀b∈Lib.decDigits u,48≤b.toNat∧b.toNat≤57:=by intro u;induction u using Nat.strongRecOn with|_ u ih=>
 intro b hb;rw[Lib.decDigits]at hb;split at hb;·rename_i h;simp only[zC]at hb;subst hb;simp;omega
 ·rename_i h;rcases List.mem_append.1 hb with hb|hb;·exact ih (u/10) (by omega) b hb
  ·simp only[zC]at hb;subst hb;simp;omega
def Vq(l:List UInt8):Nat:=l.foldl (λa b=>a*10+(b.toNat-48)) 0
theorem dW(u:Nat):Vq (Lib.decDigits u)=u:=by induction u using Nat.strongRecOn with|_ u ih=>
 rw[Lib.decDigits];split;·rename_i h;simp[Vq];omega
 ·rename_i h;have :=ih (u/10) (by omega);unfold Vq at this⊢;rw[ZBF,this];simp;omega
theorem XG{u v:Nat}(h:Lib.decDigits u=Lib.decDigits v):u=v:=by rw[←dW u,←dW v,h]
theorem qY(n:Int):∀b∈Lib.itoa n,b.toNat=45∨48≤b.toNat∧b.toNat≤57:=by
 intro b hb;unfold Lib.itoa at hb;split at hb
 ·rcases List.mem_cons.1 hb with rfl|hb;·exact .inl rfl
  ·exact .inr (SF _ b hb)
 ·exact .inr (SF _ b hb)
theorem qX{n m:Int}(h:Lib.itoa n=Lib.itoa m):n=m:=by
 have key:∀u v:Nat,(45:UInt8)::Lib.decDigits u≠Lib.decDigits v:=λu v e=>by have :=SF v 45 (by rw[←e];simp);simp at this
 unfold Lib.itoa at h;split at h<;>split at h;·have :=XG (ZBi h).2;omega
 ·exact absurd h (key _ _)
 ·exact absurd h.symm (key _ _)
 ·have :=XG h;omega
theorem QP{n m:Int}(h:BS n=BS m):n=m:=by refine qX (List.map_inj_right (f:=λb:UInt8=>(b.toNat:Int)) (λa b e=>?_)|>.1 h);exact UInt8.toNat_inj.1 (Int.ofNat_inj.1 e)
theorem Kq(n:Int):∀b∈BS n,b=45∨48≤b∧b≤57:=by intro b hb;simp only[BS,ZAb]at hb;obtain⟨c,hc,rfl⟩:=hb;have :=qY n c hc;omega
theorem Jb{n:Int}(h:-9223372036854775807≤n)(h2:n≤9223372036854775807):(BS n).length≤21:=by simp only[BS,zL];exact Lib.itoa_length_le n (by omega) h2
theorem Og{s:Int}:∀{a a' r r':List Int},s∉a→s∉a'→a++s::r=a'++s::r'→a=a'∧r=r'|[],[],r,r',_,_,h=>⟨rfl,(ZBi h).2⟩|[],x::a',r,r',_,h2,h=>by have :=(ZBi h).1;exact absurd (by rw[this];simp) h2|x::a,[],r,r',h1,_,h=>by have :=(ZBi h).1;exact absurd (by rw[←this];simp) h1|x::a,y::a',r,r',h1,h2,h=>by obtain⟨e,h⟩:=ZBi h;simp only[zO,ZAX]at h1 h2;obtain⟨e1,e2⟩:=Og h1.2 h2.2 h;exact⟨by rw[e,e1],e2⟩
theorem Qc(n:Int):(44:Int)∉BS n:=λh=>by have :=Kq n _ h;omega
theorem OB(n:Int)(l:List Int)(s:Int):Bg (n::l) s=BS (s*n)++44::Bg l s:=by simp[Bg]
theorem UP:∀{l l':List Int}{s s':Int}{r r':List Int},(44:Int)∉r→(44:Int)∉r'→Bg l s++r=Bg l' s'++r'→l.map (s*·)=l'.map (s'*·)∧r=r'|[],[],s,s',r,r',_,_,h=>⟨rfl,h⟩|[],n::l',s,s',r,r',h1,_,h=>by rw[OB]at h;exact absurd (by rw[show r=_ from h];simp) h1|n::l,[],s,s',r,r',_,h2,h=>by rw[OB]at h;exact absurd (by rw[show r'=_ from h.symm];simp) h2|n::l,m::l',s,s',r,r',h1,h2,h=>by rw[OB,OB,ZAO,ZAO,ZA1,ZA1]at h;obtain⟨e1,e2⟩:=Og (Qc _) (Qc _) h;obtain⟨e3,e4⟩:=UP h1 h2 e2;exact⟨by rw[ZAK,ZAK,QP e1,e3],e4⟩
theorem QR(l:List Int)(s:Int):∀b∈Bg l s,44≤b∧b≤57:=by
 intro b hb;simp only[Bg,ZBa,zM,zC]at hb;obtain⟨n,_,hb|rfl⟩:=hb;·have :=Kq _ b hb;omega
 ·omega
theorem WX:∀{l l':List Int},(∀b∈l,0≤b∧b≤255)→(∀b∈l',0≤b∧b≤255)→l.map (λn=>UInt8.ofNat n.toNat)=l'.map (λn=>UInt8.ofNat n.toNat)→l=l'
 |[],[],_,_,_=>rfl|[],_::_,_,_,h=>by simp at h|_::_,[],_,_,h=>by simp at h|a::l,b::l',h1,h2,h=>by
  simp only[ZAK,ZBg]at h;have h3:=h1 a (by simp);have h4:=h2 b (by simp);have e:=zX UInt8.toNat h.1;simp at e;have :a=b:=by omega
  rw[this,WX (λc hc=>h1 c (by simp[hc])) (λc hc=>h2 c (by simp[hc])) h.2]
theorem cW{l l':List Int}(h1:∀b∈l,0≤b∧b≤255)(h2:∀b∈l',0≤b∧b≤255)(h:B6 l=B6 l'):l=l':=by refine WX h1 h2 ?_;have :=zX (λx:ByteArray=>x.data.toList) h;simpa[B6]using this
theorem vE{l:List Int}(h:∀b∈l,0≤b∧b≤255):Ib (B6 l)=l:=by
 simp only[Ib,B6,ZCL];conv=>rhs;rw[←ZCE l]
 refine ZAw λb hb=>?_;have :=h b hb;simp;omega
theorem MT(l:List Int):l.map ((1:Int)*·)=l:=by
 conv=>rhs;rw[←ZCE l]
 exact ZAw λn _=>by simp
theorem rM(l:List Int):l.map ((-1:Int)*·)=Al l:=ZAw λn _=>by omega
theorem Zc{C C':List Int}{s s':Int}:B6 (Bg C s)=B6 (Bg C' s')↔C.map (s*·)=C'.map (s'*·):=by
 have hb:∀(l:List Int)(s:Int),∀b∈Bg l s,0≤b∧b≤255:=λl s b hb=>by have :=QR l s b hb;omega
 constructor;·intro h;have :=cW (hb _ _) (hb _ _) h;exact(UP (r:=[]) (r':=[]) (by simp) (by simp) (by simpa using this)).1
 ·intro h;have :∀(l:List Int)(s:Int),Bg l s=(l.map (s*·)).flatMap λn=>BS n++[44]:=λl s=>by simp[Bg,List.flatMap_map]
  rw[this,this,h]
theorem UQ{C C':List Int}:B6 (Bg C 1)=B6 (Bg C' 1)↔C=C':=by rw[Zc,MT,MT]
theorem Zd{C C':List Int}:B6 (Bg C (-1))=B6 (Bg C' 1)↔Al C=C':=by rw[Zc,MT,rM]
theorem OK(c:O)(p:List O):Cz (c::p)=BS c.1++58::(BS c.2.1++58::( Bg c.2.2.1 1++BS c.2.2.2++59::Cz p)):=by simp[Cz]
theorem aG:∀{p q:List O},Cz p=Cz q→p=q
 |[],[],_=>rfl|[],c::q,h=>by rw[OK]at h;simp[Cz]at h|c::p,[],h=>by rw[OK]at h;simp[Cz]at h|c::p,d::q,h=>by
  rw[OK,OK]at h;have n58:∀n,(58:Int)∉BS n:=λn h=>by have :=Kq n _ h;omega
  have n59:∀C K,(59:Int)∉Bg C 1++BS K:=λC K h=>by
   rcases List.mem_append.1 h with h|h;·have :=QR _ _ _ h;omega
   ·have :=Kq _ _ h;omega
  obtain⟨e1,h⟩:=Og (n58 _) (n58 _) h;obtain⟨e2,h⟩:=Og (n58 _) (n58 _) h;obtain⟨e3,h⟩:=Og (n59 _ _) (n59 _ _) h;obtain⟨e4,e5⟩:=UP (Qc _) (Qc _) e3;rw[MT,MT]at e4;have ih:=aG h;rw[ih,ZBp (QP e1) (ZBp (QP e2) (ZBp e4 (QP e5)))]
theorem aI(p:List O):∀b∈Cz p,0≤b∧b≤255:=by
 intro b hb;simp only[Cz,ZBa,zM,zC]at hb;obtain⟨c,_,hb⟩:=hb;rcases hb with(((((hb|rfl)|hb)|rfl)|hb)|hb)|rfl;·have :=Kq _ _ hb;omega
 ·omega
 ·have :=Kq _ _ hb;omega
 ·omega
 ·have :=QR _ _ _ hb;omega
 ·have :=Kq _ _ hb;omega
 ·omega
theorem rW{p q:List O}:B6 (Cz p)=B6 (Cz q)↔p=q:=⟨λh=>aG (cW (aI p) (aI q) h),λh=>by rw[h]⟩
def Br.wp(x0:List Int)(x1:Int)(Q:ByteArray→Prop):Prop:=let v2:=List.length [(44:Int)];Lp (σ:=Int×List Int) (λy3 R3=>let v0:=x0.getD y3.1.toNat 0;let v1:=List.length (y3.2++BS (x1*v0));cond (decide (y3.1<x0.length)) ((0≤y3.1∧y3.1<x0.length)∧AB .i64 (x1*v0)∧LO (x1*v0) y3.2∧((v1+v2)*1≤140737488355328∧v1+v2≤9223372036854775807)∧AB .i64 (y3.1+1)∧R3 ( y3.1+1,y3.2++BS (x1*v0)++[44])) (Q (B6 y3.2))) (0,([]:List Int))
def BT.wp(x0:List O)(Q:ByteArray→Prop):Prop:=let v2:=List.length [(58:Int)];let v8:=List.length [(59:Int)];Lp (σ:=Int×List Int) (λy2 R2=>let v0:=x0.getD y2.1.toNat U;let v1:=List.length (y2.2++BS v0.1);let v3:=List.length ( y2.2++BS v0.1++[58]++BS v0.2.1);let v4:=List.length ( y2.2++BS v0.1++[58]++BS v0.2.1++[58]);let v5:=Br.fn (v0.2.2.1,(1,()));let v6:=List.length (Ib v5);let v7:=List.length ( y2.2++BS v0.1++[58]++BS v0.2.1++[58]++Ib v5++BS v0.2.2.2);cond (decide (y2.1<x0.length)) ((0≤y2.1∧y2.1<x0.length)∧LO v0.1 y2.2∧((v1+v2)*1≤140737488355328∧v1+v2≤9223372036854775807)∧LO v0.2.1 ( y2.2++BS v0.1++[58])∧((v3+v2)*1≤140737488355328∧v3+v2≤9223372036854775807)∧Br.pre (v0.2.2.1,(1,()))∧((v4+v6)*1≤140737488355328∧v4+v6≤9223372036854775807)∧LO v0.2.2.2 ( y2.2++BS v0.1++[58]++BS v0.2.1++[58]++Ib v5)∧((v7+v8)*1≤140737488355328∧v7+v8≤9223372036854775807)∧AB .i64 (y2.1+1)∧R2 ( y2.1+1,y2.2++BS v0.1++[58]++BS v0.2.1++[58]++Ib v5++BS v0.2.2.2++[59])) (Q (B6 y2.2))) (0,([]:List Int))
def Dk.wp(x0:List O)(Q:List O→Prop):Prop:=Lp (σ:=Int×List O×(ByteArray→Option Int)) (λy2 R2=>let v0:=x0.getD y2.1.toNat U;let v1:=Br.fn (v0.2.2.1,(1,()));let v3:=Option.getD (y2.2.2 v1) 0;let v4:=y2.2.1.getD v3.toNat U;cond (decide (y2.1<x0.length)) ((0≤y2.1∧y2.1<x0.length)∧cond (v0.1 !=0) (((y2.2.1.length+List.length [v0])*48≤140737488355328∧y2.2.1.length+List.length [v0]≤9223372036854775807)∧AB .i64 (y2.1+1)∧R2 ( y2.1+1,( y2.2.1++[v0],y2.2.2))) (Br.pre (v0.2.2.1,(1,()))∧cond (Option.isSome (y2.2.2 v1)) ((0≤v3∧v3<y2.2.1.length)∧Int.toNat v3<y2.2.1.length∧(0≤v3∧v3<y2.2.1.length)∧Int.toNat v3<y2.2.1.length∧AB .i64 (y2.1+1)∧R2 ( y2.1+1,( List.set y2.2.1 v3.toNat (v4.1,(v4.2.1,(v4.2.2.1,Min.min v4.2.2.2 v0.2.2.2))),y2.2.2))) (((y2.2.1.length+List.length [v0])*48≤140737488355328∧y2.2.1.length+List.length [v0]≤9223372036854775807)∧AB .i64 (y2.1+1)∧R2 ( y2.1+1,( y2.2.1++[v0],CA y2.2.2 v1 y2.2.1.length))))) (Q y2.2.1)) (0,(([]:List O),λ(a2:ByteArray)=>(none:Option Int)))
def DS.wp(x0:List O)(Q:List O×Bool→Prop):Prop:=Lp (σ:=Int×(ByteArray→Option Int)) (λy2 R2=>let v0:=x0.getD y2.1.toNat U;cond (decide (y2.1<x0.length)) ((0≤y2.1∧y2.1<x0.length)∧cond (v0.1==0) (Br.pre (v0.2.2.1,(1,()))∧AB .i64 (y2.1+1)∧R2 ( y2.1+1,CA y2.2 (Br.fn (v0.2.2.1,(1,()))) y2.1)) (AB .i64 (y2.1+1)∧R2 ( y2.1+1,y2.2))) (Lp (σ:=Int×List O×(Int→Option Bool)) (λy4 R4=>let v3:=x0.getD y4.1.toNat U;let v4:=Br.fn (v3.2.2.1,(-1,()));let v6:=Option.getD (y2.2 v4) 0;let v7:=x0.getD v6.toNat U;let v8:=BU.fn ((1,(0,v3.2.2)),());cond (decide (y4.1<x0.length)) ((0≤y4.1∧y4.1<x0.length)∧cond (Option.getD (y4.2.2 y4.1) false) (AB .i64 (y4.1+1)∧R4 ( y4.1+1,y4.2)) (Br.pre (v3.2.2.1,(-1,()))∧((! v3.1 !=0)=true→(! v3.1 !=0)=true∧True)∧((v3.1 !=0)=false→! v3.1 !=0=true)∧cond ( v3.1 !=0||! Option.isSome (y2.2 v4)) (((y4.2.1.length+List.length [v3])*48≤140737488355328∧y4.2.1.length+List.length [v3]≤9223372036854775807)∧AB .i64 (y4.1+1)∧R4 ( y4.1+1,( y4.2.1++[v3],y4.2.2))) ((0≤v6∧v6<x0.length)∧AB .i64 (v3.2.2.2+v7.2.2.2)∧cond (decide ( v3.2.2.2+v7.2.2.2<0)) (Q (([]:List O),true)) (cond ( v3.2.2.2+v7.2.2.2==0) (BU.pre ((1,(0,v3.2.2)),())∧((y4.2.1.length+List.length [v8.1])*48≤140737488355328∧y4.2.1.length+List.length [v8.1]≤9223372036854775807)∧AB .i64 (y4.1+1)∧R4 ( y4.1+1,( y4.2.1++[v8.1],CA y4.2.2 v6 true))) (((y4.2.1.length+List.length [v3])*48≤140737488355328∧y4.2.1.length+List.length [v3]≤9223372036854775807)∧AB .i64 (y4.1+1)∧R4 ( y4.1+1,( y4.2.1++[v3],y4.2.2))))))) (Q (y4.2.1,false))) (0,(([]:List O),λ(a4:Int)=>(none:Option Bool))))) (0,λ(a2:ByteArray)=>(none:Option Int))
def AE.wp(x0:List O)(Q:List O×Bool×Int→Prop):Prop:=Lp (σ:=Int×List O) (λy2 R2=>let v0:=x0.getD y2.1.toNat U;let v1:=[(((BU.fn (v0,())).1).1,((((BU.fn (v0,())).1).2).1,(((BU.fn (v0,())).1).2).2))];let v2:=DS.fn (Dk.fn (y2.2,()),());let v14:=Ch.fn (y2.2,((λ(a9:O)=>True,λ(a9:O)=>Fq.fn (a9,())),()));let v28:=Ch.fn (y2.2,((λ(a13:O)=>True,λ(a13:O)=>Fq.fn (a13,())),()));let v31:=Ch.fn (y2.2,((λ(a11:O)=>True,λ(a11:O)=>Fq.fn (a11,())),()));cond (decide (y2.1<x0.length)) ((0≤y2.1∧y2.1<x0.length)∧BU.pre (v0,())∧cond (decide ((BU.fn (v0,())).2<0)) (Q (([]:List O),(true,0))) (cond ((BU.fn (v0,())).2==0) (((y2.2.length+v1.length)*48≤140737488355328∧y2.2.length+v1.length≤9223372036854775807)∧AB .i64 (y2.1+1)∧R2 ( y2.1+1,y2.2++v1)) (AB .i64 (y2.1+1)∧R2 ( y2.1+1,y2.2)))) (Ch.pre (y2.2,((λ(a4:O)=>True,λ(a4:O)=>Fq.fn (a4,())),()))∧Dk.pre (y2.2,())∧DS.pre (Dk.fn (y2.2,()),())∧cond v2.2 (Q (([]:List O),(true,0))) (Lp (σ:=Int×(ByteArray→Option Int)) (λy4 R4=>let v3:=v2.1.getD y4.1.toNat U;let v4:=Br.fn (v3.2.2.1,(1,()));let v5:=Option.isSome (y4.2 v4);cond (decide (y4.1<v2.1.length)) ((0≤y4.1∧y4.1<v2.1.length)∧cond (v3.1 !=1) (AB .i64 (y4.1+1)∧R4 ( y4.1+1,y4.2)) (Br.pre (v3.2.2.1,(1,()))∧(v5=true→v5=true∧True)∧(v5=true→v5=true∧True)∧(v5=true→v5=true∧v5=true∧True)∧(v5=true→v5=true)∧cond (v5&&Option.getD (y4.2 v4) 0 !=v3.2.2.2) (Q (([]:List O),(true,0))) (AB .i64 (y4.1+1)∧R4 ( y4.1+1,CA y4.2 v4 v3.2.2.2)))) (Lp (σ:=Int×List O) (λy6 R6=>let v7:=v2.1.getD y6.1.toNat U;let v8:=Br.fn (v7.2.2.1,(1,()));let v11:=Br.fn (v7.2.2.1,(-1,()));let v13:=Option.getD (y4.2 v11) 0;cond (decide (y6.1<v2.1.length)) ((0≤y6.1∧y6.1<v2.1.length)∧cond (v7.1==0) (Br.pre (v7.2.2.1,(1,()))∧cond (Option.isSome (y4.2 v8)) (cond (decide (v7.2.2.2<Option.getD (y4.2 v8) 0)) (Q (([]:List O),(true,0))) (AB .i64 (y6.1+1)∧R6 ( y6.1+1,y6.2))) (Br.pre (v7.2.2.1,(-1,()))∧cond (Option.isSome (y4.2 v11)) (AB .i64 (v7.2.2.2+v13)∧cond (decide ( v7.2.2.2+v13<0)) (Q (([]:List O),(true,0))) (AB .i64 (y6.1+1)∧R6 ( y6.1+1,y6.2))) (((y6.2.length+List.length [v7])*48≤140737488355328∧y6.2.length+List.length [v7]≤9223372036854775807)∧AB .i64 (y6.1+1)∧R6 ( y6.1+1,y6.2++[v7])))) (((y6.2.length+List.length [v7])*48≤140737488355328∧y6.2.length+List.length [v7]≤9223372036854775807)∧AB .i64 (y6.1+1)∧R6 ( y6.1+1,y6.2++[v7]))) (VZ (λ(a8:O)=>λ(a9:O)=>Cr.pre (a8,(a9,()))) y6.2∧∀b8:List O,List.Perm y6.2 b8∧Mg (λ(a9:O)=>λ(a10:O)=>Cr.fn (a9,(a10,()))) b8→cond (decide ((b8.length:Int)<2)) (((!v14)=true→(!v14)=true∧True)∧((!v14)=true→(!v14)=true∧True)∧(v14=false→(!v14)=true)∧cond (v14||decide (96<(b8.length:Int))) (Q (([]:List O),(false,3))) (Q (b8,(false,0)))) (Lp (λy9 R9=>let v15:=Int.toNat (y9-1);let v16:=b8.getD y9.toNat U;let v17:=b8.getD v15 U;cond (decide (y9<b8.length)) ((0≤y9∧y9<b8.length)∧Int.toNat y9<b8.length∧AB .i64 (y9-1)∧(0≤y9-1∧y9-1<b8.length)∧v15<b8.length∧DI.pre (v16,(v17,()))∧cond (DI.fn (v16,(v17,()))) ((0≤y9∧y9≤b8.length)∧Lp (σ:=Int×Int×List O) (λy11 R11=>let v19:=Int.toNat (y11.1-1);let v20:=y11.2.2.getD ( 0+Int.toNat y9+Int.toNat y11.1) U;let v21:=y11.2.2.getD ( 0+Int.toNat y9+v19) U;let v24:=List.take (0+Int.toNat y11.2.1) y11.2.2;let v25:=List.replicate (y11.2.2.length-Int.toNat y11.2.1) U;let v26:=List.drop ( 0+Int.toNat y11.2.1+(y11.2.2.length-Int.toNat y11.2.1)) y11.2.2;let v27:=List.length ( v24++v25++v26);let v30:=List.take y11.2.1.toNat (List.drop 0 ( v24++v25++v26));cond (decide (y11.1<(( b8.length-Int.toNat y9:Nat):Int))) ((0≤y11.1∧y11.1<(( b8.length-Int.toNat y9:Nat):Int)∧0+Int.toNat y9+(b8.length-Int.toNat y9)≤y11.2.2.length)∧0+Int.toNat y9+Int.toNat y11.1<y11.2.2.length∧AB .i64 (y11.1-1)∧(0≤y11.1-1∧y11.1-1<(( b8.length-Int.toNat y9:Nat):Int)∧0+Int.toNat y9+(b8.length-Int.toNat y9)≤y11.2.2.length)∧0+Int.toNat y9+v19<y11.2.2.length∧DI.pre (v20,(v21,()))∧cond (! DI.fn (v20,(v21,()))) ((0≤y11.1∧y11.1<(( b8.length-Int.toNat y9:Nat):Int)∧0+Int.toNat y9+(b8.length-Int.toNat y9)≤y11.2.2.length)∧0+Int.toNat y9+Int.toNat y11.1<y11.2.2.length∧(0≤y11.2.1∧y11.2.1<y11.2.2.length)∧Int.toNat y11.2.1<y11.2.2.length∧AB .i64 (y11.2.1+1)∧AB .i64 (y11.1+1)∧R11 ( y11.1+1,( y11.2.1+1,List.set y11.2.2 y11.2.1.toNat v20))) (AB .i64 (y11.1+1)∧R11 ( y11.1+1,y11.2))) ((0≤y11.2.1∧y11.2.1≤y11.2.2.length)∧0+Int.toNat y11.2.1+(y11.2.2.length-Int.toNat y11.2.1)≤y11.2.2.length∧(0≤y11.2.1∧y11.2.1≤((v27:Nat):Int))∧0+Int.toNat y11.2.1≤v27∧((!v28)=true→(!v28)=true∧True)∧((!v28)=true→(!v28)=true∧True)∧(v28=false→(!v28)=true)∧cond (v28||decide (96<(v30.length:Int))) (Q (([]:List O),(false,3))) (Q (v30,(false,0))))) (1,(y9,b8))) (AB .i64 (y9+1)∧R9 (y9+1))) (((!v31)=true→(!v31)=true∧True)∧((!v31)=true→(!v31)=true∧True)∧(v31=false→(!v31)=true)∧cond (v31||decide (96<(b8.length:Int))) (Q (([]:List O),(false,3))) (Q (b8,(false,0))))) 1))) (0,([]:List O)))) (0,λ(a4:ByteArray)=>(none:Option Int))))) (0,([]:List O))
theorem gS(l:List Int)(s:Int):∀b∈Bg l s,0≤b∧b≤255:=λb hb=>by have :=QR l s b hb;omega
theorem vD(l:List Int)(s:Int):Ib (B6 (Bg l s))=Bg l s:=vE (gS l s)
theorem qZ(l:List Int)(n s:Int):Bg (l++[n]) s=Bg l s++BS (s*n)++[44]:=by simp[Bg]
theorem rV(p:List O)(c:O):Cz (p++[c])=Cz p++BS c.1++[58]++BS c.2.1++[58]++Bg c.2.2.1 1++BS c.2.2.2++[59]:=by simp[Cz]
theorem QQ{s:Int}(hs:s=1∨s=-1):∀{l:List Int},DM l→(Bg l s).length≤22*l.length
 |[],_=>by simp[Bg]|n::l,h=>by
  rw[OB];have h1:=QQ hs (l:=l) λm hm=>h m (by simp[hm]);have h2:=h n (by simp);have h3:(BS (s*n)).length≤21:=by rcases hs with rfl|rfl<;>exact Jb (by omega) (by omega)
  simp only[yU,yX];omega
theorem aH:∀{p:List O},(∀c∈p,c.2.2.1.length≤4096∧DM c.2.2.1∧DM [c.1,c.2.1,c.2.2.2])→(Cz p).length≤90200*p.length|[],_=>by simp[Cz]|c::p,h=>by rw[OK];have h1:=aH (p:=p) λm hm=>h m (by simp[hm]);obtain⟨h2,h3,h4⟩:=h c (by simp);have h5:=QQ (.inl rfl) h3;have a1:=Jb (h4 c.1 (by simp)).1 (h4 c.1 (by simp)).2;have a2:=Jb (h4 c.2.1 (by simp)).1 (h4 c.2.1 (by simp)).2;have a3:=Jb (h4 c.2.2.2 (by simp)).1 (h4 c.2.2.2 (by simp)).2;simp only[yU,yX];omega
theorem qS{l:List Int}(i:Nat)(h:DM l):DM (l.take i):=λn hn=>h n (zZ hn)
theorem Br.spec(l:List Int)(s:Int)(hp:Br.pre (l,s,())):Br.wp l s λr=>r=Br.fn (l,s,()):=by
 obtain⟨hl,hi,hs⟩:=hp;simp only at hl hi hs;have hfn:Br.fn (l,s,())=B6 (Bg l s):=rfl;simp only[Br.wp,hfn];refine Lp.iter l.length (λi y=>y=((i:Int),Bg (l.take i) s)) (by simp[Bg]) ?_;rintro i y hle rfl R hR;by_cases e:i<l.length
 ·have hk:=QQ hs (qS i hi);have hn:=hi _ (AX (d:=0) e);have AY:(l.take i).length≤1048576:=by simp;omega
  have h3:(BS (s*l.getD i 0)).length≤21:=by rcases hs with rfl|rfl<;>exact Jb (by omega) (by omega)
  have hf:AB .i64 (s*l.getD i 0):=by show-9223372036854775808≤s*l.getD i 0∧s*l.getD i 0≤9223372036854775807;rcases hs with rfl|rfl<;>omega
  simp only[yO (show(i:Int)<(l.length:Int)by omega),yQ,yR];refine⟨⟨by omega,by omega⟩,hf,⟨hf,by omega⟩,⟨?_,?_⟩,⟨by omega,by omega⟩,hR e _ ?_⟩;·simp only[yU,yX,zF];omega
  ·simp only[yU,yX,zF];omega
  ·rw[BN 0 e,qZ];rfl
 ·have :i=l.length:=by omega
  subst this;simp only[yY,yZ,yN,zA]
theorem BT.spec(p:List O)(hp:BT.pre (p,())):BT.wp p λr=>r=BT.fn (p,()):=by
 obtain⟨hl,hi⟩:=hp;simp only at hl hi;have hfn:BT.fn (p,())=B6 (Cz p):=rfl;simp only[BT.wp,hfn,Br.fn,vD];refine Lp.iter p.length (λi y=>y=((i:Int),Cz (p.take i))) (by simp[Cz]) ?_;rintro i y hle rfl R hR;by_cases e:i<p.length
 ·have hk:=aH (p:=p.take i) λc hc=>hi c (zZ hc);obtain⟨h2,h3,h4⟩:=hi _ (AX (d:=U) e);have h5:=QQ (.inl rfl) h3;have b1:=h4 (p.getD i U).1 (by simp);have b2:=h4 (p.getD i U).2.1 (by simp);have b3:=h4 (p.getD i U).2.2.2 (by simp);have a1:=Jb b1.1 b1.2;have a2:=Jb b2.1 b2.2;have a3:=Jb b3.1 b3.2;have AY:(p.take i).length≤1048576:=by simp;omega
  have hf:∀n:Int,-9223372036854775807≤n∧n≤9223372036854775807→AB .i64 n:=λn h=>⟨by omega,h.2⟩;simp only[yO (show(i:Int)<(p.length:Int)by omega),yQ,yR];generalize hc:p.getD i U=c at*;generalize hA:Cz (p.take i)=A at*;have g1:(A++BS c.1).length≤A.length+21:=by simp only[yU];omega
  refine⟨⟨by omega,by omega⟩,⟨hf _ b1,by omega⟩,⟨?_,?_⟩,⟨hf _ b2,?_⟩,⟨?_,?_⟩,⟨(by omega:c.2.2.1.length≤1048576),h3,.inl rfl⟩,⟨?_,?_⟩,⟨hf _ b3,?_⟩,⟨?_,?_⟩,⟨by omega,by omega⟩,hR e _ ?_⟩;any_goals(simp only[yU,yX,zF];omega)
  rw[BN U e,rV,hA,hc];rfl
 ·have :i=p.length:=by omega
  subst this;simp only[yY,yZ,yN,zA]
theorem qE{C:List Int}{out:List O}{c:O}(h:c.1≠0):Ec C (out++[c])=Ec C out:=by simp only[Ec,ZDa];simp[h]
theorem qG{C:List Int}{out:List O}{c:O}(h:c.1=0):Ec C (out++[c])=(Ec C out).or (if C=c.2.2.1 then some out.length else none):=by
 simp only[Ec,ZDa];by_cases h2:C=c.2.2.1;·simp[h,h2]
 ·rw[yP h2];simp[h,show¬c.2.2.1=C from λe=>h2 e.symm]
theorem ZP(C:List Int)(out:List O):Ec C out=(out.map λd=>(d.1,d.2.2.1)).findIdx? λd=>decide (d.1=0∧d.2=C):=by simp only[Ec,List.findIdx?_map];rfl
theorem qF{C:List Int}{out:List O}{i:Nat}{x:O}(h:x.1=(out.getD i U).1)(h2:x.2.2.1=(out.getD i U).2.2.1):Ec C (out.set i x)=Ec C out:=by
 by_cases e:i<out.length
 ·rw[ZP,ZP,List.map_set,h,h2,A7 e];congr 1;have :((out[i].1,out[i].2.2.1):Int×List Int)=(out.map λd=>(d.1,d.2.2.1))[i]'(by simpa using e):=by simp
  rw[this,List.set_getElem_self]
 ·rw[List.set_eq_of_length_le (by omega)]
theorem UJ{C:List Int}{out:List O}{i:Nat}(h:Ec C out=some i):∃hi:i<out.length,out[i].1=0∧out[i].2.2.1=C:=by obtain⟨hi,h1,_⟩:=List.findIdx?_eq_some_iff_getElem.1 h;exact⟨hi,by simpa using h1⟩
theorem rG(out:List O)(c:O):(Ee out c).length≤out.length+1:=by
 unfold Ee;split;·simp
 ·split<;>simp
theorem UW:∀(l out:List O),(l.foldl Ee out).length≤out.length+l.length|[],out=>by simp|c::l,out=>by have :=UW l (Ee out c);have :=rG out c;simp only[ZAg,yX];omega
def fQ(out:List O)(m:ByteArray→Option Int):Prop:=∀C,m (B6 (Bg C 1))=(Ec C out).map λ(i:Nat)=>(i:Int)
theorem Dk.spec(l:List O)(hp:Dk.pre (l,())):Dk.wp l λr=>r=Dk.fn (l,()):=by
 obtain⟨hl,hi⟩:=hp;simp only at hl hi;have hfn:Dk.fn (l,())=B8 l:=rfl;simp only[Dk.wp,hfn,Br.fn];refine Lp.iter l.length (λi y=>y.1=(i:Int)∧y.2.1=B8 (l.take i)∧fQ y.2.1 y.2.2) ⟨rfl,by simp[B8],λC=>by simp[Ec]⟩ ?_;rintro i⟨y,out,m⟩hle⟨hy,ho,hm⟩R hR;simp only at hy ho hm;subst hy;by_cases e:i<l.length
 ·have hlen:=UW (l.take i) [];have AY:(l.take i).length≤1048576:=by simp;omega
  rw[show(l.take i).foldl Ee []=out from ho.symm]at hlen;simp only[zF]at hlen;have BJ:B8 (l.take (i+1))=Ee out (l.getD i U):=by rw[BN U e,B8,ZBF,ho];rfl
  obtain⟨IE,IF⟩:=hi _ (AX (d:=U) e);simp only[yO (show(i:Int)<(l.length:Int)by omega),yQ,yR];generalize l.getD i U=c at*;refine⟨⟨by omega,by omega⟩,?_⟩;by_cases hk:c.1=0;·rw[hk];simp only[zJ,yN];refine⟨⟨IE,IF,.inl rfl⟩,?_⟩;have QB:=hm c.2.2.1;cases hg:Ec c.2.2.1 out with
   |none=>
    rw[hg]at QB;simp only[QB,Option.map_none,ZBe,yN];refine⟨⟨by simp;omega,by simp;omega⟩,⟨by omega,by omega⟩,hR e _ ⟨by simp,?_,?_⟩⟩;·simp only[BJ,Ee,hk,hg];rfl
    ·intro C;simp only[CA,UQ];rw[qG hk];by_cases hC:C=c.2.2.1;·rw[yS hC,yS hC,hC,hg];rfl
     ·rw[yP hC,yP hC,hm C];simp|some j=>
    rw[hg]at QB;obtain⟨hj,h1,h2⟩:=UJ hg;simp only[QB,ZCp,ZBz,yR,ZBc,yQ];have xT:=A7 (d:=U) hj;refine⟨⟨by omega,by omega⟩,hj,⟨by omega,by omega⟩,hj,⟨by omega,by omega⟩,hR e _ ⟨by simp,?_,?_⟩⟩;·simp only[BJ,Ee,hk,hg];rfl
    ·intro C;exact(hm C).trans (zX _ (qF (C:=C) (out:=out) (i:=j) (x:=Cn (out.getD j U) c.2.2.2) rfl rfl).symm)
  ·rw[bne_iff_ne.2 hk];simp only[yR];refine⟨⟨by simp;omega,by simp;omega⟩,⟨by omega,by omega⟩,hR e _ ⟨by simp,?_,?_⟩⟩;·simp only[BJ,Ee,yS hk]
   ·intro C;exact(hm C).trans (zX _ (qE hk).symm)
 ·have :i=l.length:=by omega
  subst this;simp only[yY,yZ,yN,ho,zA]
theorem US(C:List Int)(c:O):∀(l:List O)(k:Nat),FY C (l++[c]) k=if c.1=0∧c.2.2.1=C then some (k+l.length)else FY C l k
 |[],k=>by simp only[ZAk,FY,zF,ZA6]|d::l,k=>by
  simp only[ZA1,FY,US C c l (k+1),yX];by_cases h:c.1=0∧c.2.2.1=C;·simp only[yS h];congr 1;omega
  ·simp only[yP h]
theorem UT{C:List Int}:∀{l:List O}{k j:Nat},FY C l k=some j→k≤j∧∃h:j-k<l.length,l[j-k].1=0∧l[j-k].2.2.1=C|[],k,j,h=>by cases h|d::l,k,j,h=>by simp only[FY]at h;cases h1:FY C l (k+1)with
 |some i=>
  rw[h1]at h;cases h;obtain⟨h2,h3,h4⟩:=UT h1;have e:j-k=j-(k+1)+1:=by omega
  refine⟨by omega,by simp;omega,?_⟩;simp only[e,List.getElem_cons_succ];exact h4|none=>
  rw[h1]at h;simp only at h;split at h;·rename_i h2;cases h;refine⟨zB _,by simp,?_⟩;simp only[ZBT,List.getElem_cons_zero];exact h2
  ·cases h
theorem sN{l:List O}{st st':List O×(Int→Option Bool)}{ic:Nat×O}(h:GZ l st ic=some st'):st'.1.length≤st.1.length+1:=by
 unfold GZ at h;split at h;·cases h;omega
 ·split at h;·cases h;simp
  ·split at h;·cases h
   ·split at h<;>(cases h;simp)
theorem U1{l:List O}:∀{m:List (Nat×O)}{st st':List O×(Int→Option Bool)},m.foldlM (GZ l) st=some st'→st'.1.length≤st.1.length+m.length|[],st,st',h=>by cases h;simp|x::m,st,st',h=>by simp only[zQ,ZAE,ZAB]at h;obtain⟨s,h1,h2⟩:=h;have :=sN h1;have :=U1 h2;simp only[yX];omega
theorem Jw(l:List O):(Ha l).length=l.length:=by simp[Ha]
theorem eC{l:List O}{i:Nat}(h:i<l.length):(Ha l).getD i (0,U)=(i,l.getD i U):=by rw[A7 (by rw[Jw];exact h)];simp[Ha]
theorem Jf{l:AT}(h:linB l):DM l.1:=λn hn=>by have :=h.2.1 n hn;unfold Bj at this;omega
theorem DS.spec(l:List O)(hp:DS.pre (l,())):DS.wp l λr=>r=DS.fn (l,()):=by
 obtain⟨hl,hi⟩:=hp;simp only at hl hi;simp only[DS.wp,Br.fn];refine Lp.iter l.length (λi y=>y.1=(i:Int)∧∀C,y.2 (B6 (Bg C 1))=(FY C (l.take i) 0).map λ(i:Nat)=>(i:Int)) ⟨rfl,λC=>rfl⟩ ?_;rintro i⟨y,m⟩hle⟨hy,hm⟩R hR;simp only at hy hm;subst hy;by_cases e:i<l.length
 ·obtain⟨GP,hb⟩:=hi _ (AX (d:=U) e);simp only[yO (show(i:Int)<(l.length:Int)by omega),yQ,yR];refine⟨⟨by omega,by omega⟩,?_⟩;have C9:=BN U e;generalize l.getD i U=c at*;by_cases hk:c.1=0
  ·simp only[hk,ZAG,yR];refine⟨⟨hb.1,Jf hb,.inl rfl⟩,⟨by omega,by omega⟩,hR e _ ⟨rfl,λC=>?_⟩⟩;rw[C9,US];simp only[CA,UQ];by_cases hC:C=c.2.2.1;·rw[yS hC,yS ⟨hk,hC.symm⟩];simp;omega
   ·rw[yP hC,yP λh=>hC h.2.symm];exact hm C
  ·rw[beq_eq_false_iff_ne.2 hk];simp only[yN];refine⟨⟨by omega,by omega⟩,hR e _ ⟨rfl,λC=>?_⟩⟩;rw[C9,US,yP λh=>hk h.1];exact hm C
 clear hR;have Tm:i=l.length:=by omega
 subst Tm;simp only[yY,yZ,yN];rw[zA]at hm;have hfn:DS.fn (l,())=(match((Ha l).foldlM (GZ l) ([],λ_=>none)).map (·.1)with|none=>([],true)|some out=>(out,false)):=rfl;refine Lp.foldO (Ha l) (0,U) (GZ l) ([],λ_=>none) (by rw[Jw];omega) ?_ ?_
 ·rintro i⟨out,gone⟩R e _ hf ht BA A8;rw[Jw]at e;rw[eC e]at BA A8;have hlen:=U1 ht;simp only[zF,zG,Jw]at hlen;obtain⟨GP,hb⟩:=hi _ (AX (d:=U) e);simp only[yO (show(i:Int)<(l.length:Int)by omega),yQ,yR];refine⟨⟨by omega,by omega⟩,?_⟩;have hat:∀j,j<l.length→l.getD j U∈l:=λj hj=>AX hj;simp only[GZ]at BA A8;by_cases hg:(gone (i:Int)).getD false=true;·simp only[hg,yR,ZA4]at BA⊢;exact⟨hf,BA _ rfl⟩
  rw[ZA9]at hg;simp only[hg,yN,zY,ZAY]at BA A8⊢;refine⟨⟨hb.1,Jf hb,.inr rfl⟩,λh=>⟨h,trivial⟩,λh=>by rw[h];rfl,?_⟩;have hw:m (B6 (Bg (l.getD i U).2.2.1 (-1)))=(FY (Al (l.getD i U).2.2.1) l 0).map λ(i:Nat)=>(i:Int):=by rw[←hm,Zd.2 rfl]
  simp only[hw];by_cases hk:(l.getD i U).1=0;·simp only[hk,zJ,ZBC,ZDM,ZBj,ZAY]at BA A8⊢;cases hj:FY (Al (l.getD i U).2.2.1) l 0 with|none=>rw[hj]at BA;simp only[Option.map_none,ZBe,ZAu,yR];exact⟨⟨by simp;omega,by simp;omega⟩,hf,BA _ rfl⟩|some j=>
   rw[hj]at BA A8;obtain⟨_,FP,hj2,hj3⟩:=UT hj;simp only[ZCo]at FP hj2 hj3;obtain⟨_,hb'⟩:=hi _ (hat j FP);have q1:=hb.2.2;have q2:=hb'.2.2;unfold Bj at q1 q2;simp only[ZCp,ZBz,zU,yN,ZBc,yQ]at BA A8⊢;refine⟨⟨by omega,by omega⟩,⟨by omega,by omega⟩,?_⟩;by_cases h1:(l.getD i U).2.2.2+(l.getD j U).2.2.2<0;·simp only[yO h1,yR];rw[hfn,A8 (by rw[yS h1])];rfl
   ·simp only[yV h1,yN];rw[yP h1]at BA;by_cases h2:(l.getD i U).2.2.2+(l.getD j U).2.2.2=0;·rw[yS h2]at BA;simp only[h2,ZAG,yR];exact⟨⟨.inr (.inl rfl),hb⟩,⟨by simp;omega,by simp;omega⟩,hf,BA _ rfl⟩
    ·rw[yP h2]at BA;rw[beq_eq_false_iff_ne.2 h2];simp only[yN];exact⟨⟨by simp;omega,by simp;omega⟩,hf,BA _ rfl⟩
  ·simp only[bne_iff_ne.2 hk,ZBd,yR,ZDM,hk,not_false_eq_true,ZA4]at BA⊢;exact⟨⟨by simp;omega,by simp;omega⟩,hf,BA _ rfl⟩
 ·rintro⟨out,gone⟩R ht;rw[Jw];simp only[yY,yZ,yN];rw[hfn,ht];rfl
def GG{α:Type}(f:α→α→Int):Prop:=(∀x y,f x y=-f y x)∧∀x y z,f x y≤0→f y z≤0→f x z≤0∧(f x z=0→f x y=0∧f y z=0)
theorem GG.zero{α:Type}{f:α→α→Int}(h:GG f){x y z:α}(h1:f x y=0)(h2:f y z=0):f x z=0:=by have a:=(h.2 x y z (by omega) (by omega)).1;have b:=(h.2 z y x (by have :=h.1 z y;omega) (by have :=h.1 y x;omega)).1;have :=h.1 x z;omega
theorem GG.lex{α β:Type}{f:α→α→Int}{g:β→β→Int}(hf:GG f)(hg:GG g):GG λx y:α×β=>if f x.1 y.1=0 then g x.2 y.2 else f x.1 y.1:=by
 refine⟨λx y=>?_,λx y z=>?_⟩;·have :=hf.1 x.1 y.1;have :=hg.1 x.2 y.2;simp only;split<;>split<;>omega
 ·have h1:=hf.2 x.1 y.1 z.1;have h2:=hg.2 x.2 y.2 z.2;have h3:=@GG.zero _ _ hf x.1 y.1 z.1;simp only;intro ha hb;split at ha<;>split at hb<;>split<;>(try split)<;>(try split)<;>omega
theorem GG.comap{α β:Type}{f:α→α→Int}(hf:GG f)(g:β→α):GG λx y=>f (g x) (g y):=⟨λx y=>hf.1 _ _,λx y z=>hf.2 _ _ _⟩
theorem LU:GG Ci:=by
 refine⟨λx y=>?_,λx y z=>?_⟩
 ·unfold Ci;repeat' split
  all_goals omega
 ·unfold Ci;repeat' split
  all_goals omega
theorem Zs:∀a b:List Int,BL a b=-BL b a|[],[]=>rfl|[],_::_=>rfl|_::_,[]=>rfl|x::a,y::b=>by have h1:=LU.1 x y;have h2:=Zs a b;simp only[BL];split<;>split<;>omega
theorem Zu:∀a b c:List Int,BL a b≤0→BL b c≤0→BL a c≤0∧(BL a c=0→BL a b=0∧BL b c=0)|[],[],[]=>by simp[BL]|[],[],_::_=>by simp[BL]|[],_::_,[]=>by simp[BL]|[],_::_,_::_=>by simp[BL]|_::_,[],_=>by simp[BL]|_::_,_::_,[]=>by simp[BL]|x::a,y::b,z::c=>by have h1:=LU.2 x y z;have h2:=Zu a b c;have h3:=@GG.zero _ _ LU x y z;simp only[BL];intro ha hb;split at ha<;>split at hb<;>split<;>(try split)<;>(try split)<;>omega
theorem rI:GG BL:=⟨Zs,Zu⟩
theorem PM{a b:Int}(h:Ci a b=0):a=b:=by
 unfold Ci at h;split at h;·omega
 ·split at h<;>omega
theorem Zt:∀{a b:List Int},BL a b=0→a=b
 |[],[],_=>rfl|[],_::_,h=>by simp[BL]at h|_::_,[],h=>by simp[BL]at h|x::a,y::b,h=>by
  simp only[BL]at h;split at h;·rename_i h1;rw[PM h1,Zt h]
  ·rename_i h1;exact absurd h h1
theorem Qh(a b:O):C1 a b=if Ci (CB a.1) (CB b.1)=0 then if Ci a.2.1 b.2.1=0 then if BL a.2.2.1 b.2.2.1=0 then Ci a.2.2.2 b.2.2.2 else BL a.2.2.1 b.2.2.1 else Ci a.2.1 b.2.1 else Ci (CB a.1) (CB b.1):=by
 simp only[C1,Jm];split
 ·split
  ·split;·split<;>omega
   ·rfl
  ·rfl
 ·rfl
theorem Jn:GG C1:=by
 have h:=(LU.comap CB).lex (LU.lex (rI.lex LU));refine⟨λx y=>?_,λx y z=>?_⟩;·have :=h.1 x y;simp only[Qh];exact this
 ·have :=h.2 x y z;simp only[Qh];exact this
theorem Qi(a:O):C1 a a=0:=by have :=Jn.1 a a;omega
theorem tG{a b:Int}(ha:GW a)(hb:GW b)(h:CB a=CB b):a=b:=by rcases ha with rfl|rfl|rfl<;>rcases hb with rfl|rfl|rfl<;>first|rfl|(simp[CB]at h)
theorem Qg{a b:O}(ha:GW a.1)(hb:GW b.1)(h:C1 a b=0):a=b:=by
 rw[Qh]at h;split at h
 ·rename_i h1;split at h
  ·rename_i h2;split at h;·rename_i h3;exact ZBp (tG ha hb (PM h1)) (ZBp (PM h2) (ZBp (Zt h3) (PM h)))
   ·rename_i h3;exact absurd h h3
  ·rename_i h2;exact absurd h h2
 ·rename_i h1;exact absurd h h1
def SS(l:List O):Prop:=l.Pairwise λa b=>C1 a b<0
def K3(l:List O):Prop:=∀c∈l,GW c.1
theorem RU:∀{l m:List O},SS l→SS m→(∀c,c∈l↔c∈m)→l=m
 |[],[],_,_,_=>rfl|[],b::m,_,_,h=>by have :=(h b).2 (by simp);simp at this|a::l,[],_,_,h=>by have :=(h a).1 (by simp);simp at this|a::l,b::m,h1,h2,h=>by
  obtain⟨YA,lP⟩:=List.pairwise_cons.1 h1;obtain⟨YC,lQ⟩:=List.pairwise_cons.1 h2;have e:a=b:=by
   rcases List.mem_cons.1 ((h a).1 (by simp))with e|ha;·exact e
   rcases List.mem_cons.1 ((h b).2 (by simp))with e|hb;·exact e.symm
   have :=YA b hb;have :=YC a ha;have :=Jn.1 a b;omega
  subst e;congr 1;refine RU lP lQ λc=>?_;have hc:=h c;simp only[zO]at hc;have hn1:c∈l→c≠a:=λhm e=>by subst e;have :=YA _ hm;have :=Qi c;omega
  have hn2:c∈m→c≠a:=λhm e=>by subst e;have :=YC _ hm;have :=Qi c;omega
  exact⟨λhm=>(hc.1 (.inr hm)).resolve_left (hn1 hm),λhm=>(hc.2 (.inr hm)).resolve_left (hn2 hm)⟩
theorem N7{c x:O}:∀{l:List O},x∈DA c l↔x=c∨x∈l
 |[]=>by simp[DA]|d::l=>by
  simp only[DA];split
  ·simp only[zO,N7 (l:=l)];constructor;·rintro(h|h|h)<;>simp[h]
   ·rintro(h|h|h)<;>simp[h]
  ·split;·rename_i h;subst h;simp
   ·simp
theorem ZW{c:O}:∀{l:List O},GW c.1→K3 l→SS l→SS (DA c l)
 |[],_,_,_=>ZDI _ _|d::l,hc,hk,h=>by
  obtain⟨h1,h2⟩:=List.pairwise_cons.1 h;simp only[DA];split
  ·rename_i hd;refine List.pairwise_cons.2 ⟨λx hx=>?_,ZW hc (λx hx=>hk x (by simp[hx])) h2⟩;rcases N7.1 hx with rfl|hx;·exact hd
   ·exact h1 x hx
  ·rename_i hd;split;·exact h
   ·rename_i he;have AY:C1 c d<0:=by have :=Jn.1 c d;have :C1 d c≠0:=λe=>he (Qg (hk d (by simp)) hc e);omega
    refine List.pairwise_cons.2 ⟨λx hx=>?_,h⟩;rcases List.mem_cons.1 hx with rfl|hx;·exact AY
    ·have :=h1 x hx;have :=Jn.2 c d x (by omega) (by omega);omega
theorem Va:∀{l out:List O},K3 l→K3 out→SS out→SS (l.foldl (λout c=>DA c out) out)∧∀x,x∈l.foldl (λout c=>DA c out) out↔x∈l∨x∈out
 |[],out,_,_,h=>⟨h,by simp⟩|c::l,out,h1,h2,h=>by
  have hc:=h1 c (by simp);obtain⟨g1,g2⟩:=Va (l:=l) (out:=DA c out) (λx hx=>h1 x (by simp[hx])) (λx hx=>by
   rcases N7.1 hx with rfl|hx;·exact hc
   ·exact h2 x hx) (ZW hc h2 h);refine⟨g1,λx=>?_⟩;rw[ZAg,g2,N7,zO];constructor;·rintro(h|h|h)<;>simp[h]
  ·rintro((h|h)|h)<;>simp[h]
theorem Q0{l:List O}(h:K3 l):SS (Au l):=(Va h (by intro c hc;simp at hc) List.Pairwise.nil).1
theorem Jr{l:List O}(h:K3 l)(x:O):x∈Au l↔x∈l:=by have :=(Va h (out:=[]) (by intro c hc;simp at hc) List.Pairwise.nil).2 x;simpa[Au]using this
theorem cQ{l m:List O}(h:K3 l)(hs:SS m)(hm:∀c,c∈m↔c∈l):m=Au l:=RU hs (Q0 h) λc=>by rw[hm,Jr h]
def Hc(out:List O)(x:O):List O:=if out.getLast?=some x then out else out++[x]
def Fs(l:List O):List O:=l.foldl Hc []
theorem Ry:∀{l out:List O},K3 l→K3 out→SS out→l.Pairwise (λa b=>C1 a b≤0)→(∀a∈out,∀b∈l,C1 a b≤0)→SS (l.foldl Hc out)∧∀x,x∈l.foldl Hc out↔x∈l∨x∈out
 |[],out,_,_,h,_,_=>⟨h,by simp⟩|c::l,out,h1,h2,h,h3,h4=>by
  obtain⟨lR,YD⟩:=List.pairwise_cons.1 h3;have h1':K3 l:=λx hx=>h1 x (by simp[hx]);rw[ZAg];by_cases e:out.getLast?=some c
  ·rw[show Hc out c=out by rw[Hc,yS e]];obtain⟨g1,g2⟩:=Ry h1' h2 h YD λa ha b hb=>h4 a ha b (by simp[hb]);refine⟨g1,λx=>?_⟩;have A9:c∈out:=List.mem_of_getLast? e;rw[g2,zO];constructor;·rintro(h|h)<;>simp[h]
   ·rintro((h|h)|h);·subst h;exact .inr A9
    ·exact .inl h
    ·exact .inr h
  ·rw[show Hc out c=out++[c]by rw[Hc,yP e]];have AY:∀a∈out,C1 a c<0:=by
    intro a ha;have h5:=h4 a ha c (by simp);rcases Int.lt_or_eq_of_le h5 with h6|h6;·exact h6
    ·have mH:=Qg (h2 a ha) (h1 c (by simp)) h6;subst mH;rcases List.eq_nil_or_concat out with h7|⟨i,z,h7⟩;·subst h7;simp at ha
     ·rw[List.concat_eq_append]at h7;subst h7;rw[List.getLast?_append]at e;simp only[List.getLast?_singleton,Option.some_or,ZA5]at e;have h8:=(List.pairwise_append.1 h).2.2;rcases List.mem_append.1 ha with ha|ha;·have h9:=h8 a ha z (by simp);have BX:=h4 z (by simp) a (by simp);have :=Jn.1 a z;omega
      ·simp only[zC]at ha;exact absurd ha.symm e
   obtain⟨g1,g2⟩:=Ry (out:=out++[c]) h1' (λx hx=>by
    rcases List.mem_append.1 hx with hx|hx;·exact h2 x hx
    ·simp only[zC]at hx;subst hx;exact h1 x (by simp)) (List.pairwise_append.2 ⟨h,ZDI _ _,λa ha b hb=>by simp only[zC]at hb;subst hb;exact AY a ha⟩) YD λa ha b hb=>by
    rcases List.mem_append.1 ha with ha|ha;·exact h4 a ha b (by simp[hb])
    ·simp only[zC]at ha;subst ha;exact lR b hb
   refine⟨g1,λx=>?_⟩;rw[g2,zM,zC,zO];constructor;·rintro(h|h|h)<;>simp[h]
   ·rintro((h|h)|h)<;>simp[h]
theorem iC{l b:List O}(hk:K3 l)(hp:l.Perm b)(hs:Mg C1 b):Fs b=Au l:=by have hk':K3 b:=λc hc=>hk c (hp.mem_iff.2 hc);obtain⟨g1,g2⟩:=Ry (out:=[]) hk' (by intro c hc;simp at hc) List.Pairwise.nil (hs.imp λ{a b}h=>by have :=Jn.1 a b;omega) (by intro a ha;simp at ha);refine cQ hk g1 λc=>?_;have :=g2 c;rw[hp.mem_iff];simpa[Fs]using this
theorem iE(out:List O)(x:O):(Hc out x).getLast?=some x:=by
 unfold Hc;split;·assumption
 ·simp
theorem Ol{n g:Int}(h:Bj n):Bj (n.tdiv g):=by have :=QZ n g;unfold Bj at*;omega
theorem jN{n:Int}{g:Nat}(hg:0<g)(h:Bj n):Bj (n/(g:Int)):=by
 unfold Bj at*;have h1:=Int.emod_add_mul_ediv n g;have h2:=ZBS n (show(g:Int)≠0 by omega);have h3:=ZBH n (show(0:Int)<g by omega);have h4:(1:Int)≤g:=by omega
 generalize n/(g:Int)=q at*;constructor
 ·apply ZC8;intro hq;have :(g:Int)*q≤1*q:=by have :=ZCf h4 (show q≤0 by omega);omega
  have h5:(g:Int)*(q+1)≤1*(q+1):=ZCf h4 (show q+1≤0 by omega);rw[ZCW]at h5;omega
 ·apply ZC8;intro hq;have h5:1*q≤(g:Int)*q:=Int.mul_le_mul_of_nonneg_right h4 (show 0≤q by omega);omega
theorem aD{n m:Int}(h1:1≤m)(h2:m≤2305843009213693952):Bj (n%m):=by have h2:=ZBS n (show m≠0 by omega);have h3:=ZBH n (show(0:Int)<m by omega);unfold Bj;omega
theorem bK{c:O}(h:condB c)(h0:(AV c).2=0):condB (AV c).1:=by
 obtain⟨hk,h1,h2,h3⟩:=h;have hs:∀b,(Cs b).2≠0:=λb=>by cases b<;>simp[Cs]
 unfold AV at h0⊢;rcases hk with hk|hk|⟨hk,Dd,HI⟩
 ·simp only[hk,ZA4]at h0⊢;unfold FM at h0⊢;by_cases hg:AO c.2.2.1=0;·rw[yS hg]at h0;exact absurd h0 (hs _)
  ·rw[yP hg];refine⟨.inl rfl,by simpa using h1,λn hn=>?_,jN (by omega) h3⟩;obtain⟨m,hm,rfl⟩:=List.mem_map.1 hn;exact Ol (h2 m hm)
 ·simp only[hk,show(1:Int)≠0 by decide,ZA4,ZAY]at h0⊢;unfold Bt at h0⊢;by_cases hg:AO c.2.2.1=0∨c.2.2.2.tmod (AO c.2.2.1)≠0;·rw[yS hg]at h0;exact absurd h0 (hs _)
  ·rw[yP hg];refine⟨.inr (.inl rfl),by simpa using h1,λn hn=>?_,Ol h3⟩;obtain⟨m,hm,rfl⟩:=List.mem_map.1 hn;exact Ol (h2 m hm)
 ·simp only[hk,show(2:Int)≠0 by decide,show(2:Int)≠1 by decide,ZAY]at h0⊢;unfold EJ at h0⊢;split at h0;·exact absurd h0 (hs _)
  split at h0;·exact absurd h0 (hs _)
  rename_i ha hb;rw[yP ha,yP hb];have hp:0<As c:=NM Dd _;have hle:As c≤c.2.1.toNat:=S5 Dd _;refine⟨.inr (.inr ⟨rfl,?_,?_⟩),by simpa using h1,λn hn=>?_,Ol (aD Dd HI)⟩;·show 1≤c.2.1.tdiv (As c);rw[Int.tdiv_eq_ediv_of_nonneg (by omega)];have :(1:Int)=(As c:Int)/(As c:Int):=(Int.ediv_self (by omega)).symm;rw[this];exact Int.ediv_le_ediv (by omega) (by omega)
  ·have :=QZ c.2.1 (As c);show c.2.1.tdiv (As c)≤_;omega
  ·simp only[ZCL,ZAb]at hn;obtain⟨m,hm,rfl⟩:=hn;exact Ol (aD Dd HI)
theorem condB.k3{c:O}(h:condB c):GW c.1:=by
 rcases h.1 with h|h|h;·exact .inl h
 ·exact .inr (.inl h)
 ·exact .inr (.inr h.1)
def K6(out:List O)(c:O):Option (List O):=if(AV c).2<0 then none else if(AV c).2=0 then some (out++[(AV c).1])else some out
def Ai(p:List O):List O:=((p.map AV).filter λr=>decide (r.2=0)).map (·.1)
def CD(p:List O):Bool:=(p.map AV).any λr=>decide (r.2<0)
theorem VE:∀(p out:List O),p.foldlM K6 out=if CD p then none else some (out++Ai p)
 |[],out=>by simp[CD,Ai]|c::p,out=>by
  rw[zQ];simp only[K6,CD,Ai,ZAK,ZCz];by_cases h:(AV c).2<0;·simp[h]
  ·have ih:∀out,p.foldlM K6 out=if CD p then none else some (out++Ai p):=VE p;unfold CD Ai at ih;by_cases h2:(AV c).2=0;·simp only[yP h,yS h2,ZAE,ZAv,ih,yV h,ZBC];simp[h2]
   ·simp only[yP h,yP h2,ZAE,ZAv,ih,yV h,ZBC];simp[h2]
theorem Qq{p:List O}(h:A2 p):A2 (Ai p):=by
 refine⟨?_,λc hc=>?_⟩;·have :=ZCb (λr:O×Int=>decide (r.2=0)) (p.map AV);have :=h.1;simp only[Ai,zL]at*;omega
 ·simp only[Ai,ZAb,ZBy]at hc;obtain⟨r,⟨⟨d,hd,rfl⟩,hr⟩,rfl⟩:=hc;exact bK (h.2 d hd) (by simpa using hr)
theorem sS{p:List O}(h:A2 p):Zw p:=⟨h.1,λc hc=>⟨(h.2 c hc).2.1,Jf (h.2 c hc).2⟩⟩
theorem qR{a b:Int}(h:Bj a)(h2:Bj b):Bj (min a b):=by unfold Bj at*;omega
theorem rF{P:O→Prop}(Hq:∀d c,P d→P c→P (Cn d c.2.2.2)){out:List O}{c:O}(h:∀d∈out,P d)(hc:P c):∀d∈Ee out c,P d:=by
 intro d hd;unfold Ee at hd;have key:d∈out++[c]→P d:=λhd=>by
  rcases List.mem_append.1 hd with hd|hd;·exact h d hd
  ·simp only[zC]at hd;subst hd;exact hc
 split at hd;·exact key hd
 ·split at hd
  ·rename_i i hi;obtain⟨hi,_⟩:=UJ hi;rcases ZC7 hd with hd|hd;·exact h d hd
   ·subst hd;exact Hq _ _ (h _ (AX (d:=U) hi)) hc
  ·exact key hd
theorem QU{P:O→Prop}(Hq:∀d c,P d→P c→P (Cn d c.2.2.2)){l:List O}(h:∀d∈l,P d):∀d∈B8 l,P d:=by
 have key:∀(l out:List O),(∀d∈out,P d)→(∀d∈l,P d)→∀d∈l.foldl Ee out,P d:=by intro l;induction l with|nil=>exact λout h _=>h|cons c l ih=>exact λout h h2=>ih _ (rF Hq h (h2 c (by simp))) λd hd=>h2 d (by simp[hd])
 exact key l [] (by simp) h
theorem rQ{d c:O}(hb:condB d)(hc:condB c):condB (Cn d c.2.2.2):=⟨hb.1,hb.2.1,hb.2.2.1,qR hb.2.2.2 hc.2.2.2⟩
theorem Zq{l:List O}(h:A2 l):A2 (B8 l):=by have :=UW l [];have :=h.1;exact⟨by simp only[B8];simp at*;omega,QU (λd c=>rQ) h.2⟩
theorem XW{c:O}(h:linB c.2.2):condB (AV (1,0,c.2.2)).1:=by
 have hb:condB (1,0,c.2.2):=⟨.inr (.inl rfl),h⟩;by_cases h0:(AV (1,0,c.2.2)).2=0;·exact bK hb h0
 ·have hd:condB U:=⟨.inl rfl,by simp,by simp,(by unfold Bj;omega:Bj 0)⟩;have :(AV (1,0,c.2.2)).1=U:=by
   simp only[AV,show(1:Int)≠0 by decide,ZA4,ZAY]at h0⊢;unfold Bt at h0⊢;split;·simp[Cs]
   ·rename_i h1;rw[yP h1]at h0;exact absurd rfl h0
  rw[this];exact hd
theorem sM{P:O→Prop}(heq:∀c,c.1=0→P c→P (AV (1,0,c.2.2)).1){l:List O}{st st':List O×(Int→Option Bool)}{ic:Nat×O}(h:GZ l st ic=some st')(h1:∀d∈st.1,P d)(h2:P ic.2):∀d∈st'.1,P d:=by
 have key:∀x,P x→∀d∈st.1++[x],P d:=λx hx d hd=>by
  rcases List.mem_append.1 hd with hd|hd;·exact h1 d hd
  ·simp only[zC]at hd;subst hd;exact hx
 unfold GZ at h;split at h;·cases h;exact h1
 ·split at h;·cases h;exact key _ h2
  ·rename_i j hj;have h0:ic.2.1=0:=by
    rcases ZCe (ic.2.1=0)with h0|h0;·exact h0
    ·rw[yS h0]at hj;cases hj
   split at h;·cases h
   ·split at h;·cases h;exact key _ (heq _ h0 h2)
    ·cases h;exact key _ h2
theorem U0{P:O→Prop}(heq:∀c,c.1=0→P c→P (AV (1,0,c.2.2)).1){l:List O}:∀{m:List (Nat×O)}{st st':List O×(Int→Option Bool)},m.foldlM (GZ l) st=some st'→(∀d∈st.1,P d)→(∀ic∈m,P ic.2)→∀d∈st'.1,P d|[],st,st',h,h1,_=>by cases h;exact h1|x::m,st,st',h,h1,h2=>by simp only[zQ,ZAE,ZAB]at h;obtain⟨s,h3,h4⟩:=h;exact U0 heq h4 (sM heq h3 h1 (h2 x (by simp))) λic Ni=>h2 ic (by simp[Ni])
theorem eD{l:List O}{ic:Nat×O}(h:ic∈Ha l):ic.2∈l:=by simp only[Ha,ZAb,ZDU]at h;obtain⟨i,hi,rfl⟩:=h;exact AX hi
theorem bA{l out:List O}(h:A2 l)(hp:E9 l=some out):A2 out:=by unfold E9 at hp;rw[ZAA]at hp;obtain⟨st,h1,rfl⟩:=hp;have :=U1 h1;rw[Jw]at this;have h0:=h.1;refine⟨by simp at this;omega,U0 (P:=condB) (λc _ hc=>XW hc.2) h1 (by simp) λic Ni=>h.2 _ (eD Ni)⟩
theorem Uz{P:O→Prop}(heq:∀c,c.1=0→P c→P (AV (1,0,c.2.2)).1){l out:List O}(h:∀d∈l,P d)(hp:E9 l=some out):∀d∈out,P d:=by unfold E9 at hp;rw[ZAA]at hp;obtain⟨st,h1,rfl⟩:=hp;exact U0 heq h1 (by simp) λic Ni=>h _ (eD Ni)
theorem XY(C:List Int)(l:List O)(c:O):Da C (l++[c])=if c.1=1∧c.2.2.1=C then some c.2.2.2 else Da C l:=by
 simp only[Da,List.reverse_append,List.reverse_singleton,ZCc,List.find?_cons];by_cases h:c.1=1∧c.2.2.1=C;·rw[yS h,yO h];rfl
 ·rw[yP h,yV h]
theorem Pe{C:List Int}{l:List O}{n:Int}(h:Da C l=some n):∃c∈l,c.1=1∧c.2.2.1=C∧c.2.2.2=n:=by simp only[Da,ZAA]at h;obtain⟨c,hc,rfl⟩:=h;have h1:=List.mem_of_find?_eq_some hc;have h2:=List.find?_some hc;simp only[ZAp]at h2;exact⟨c,by simpa using h1,h2.1,h2.2,rfl⟩
theorem Oe{l:List O}:∀{m out out':List O},m.foldlM (IZ l) out=some out'→out'.length≤out.length+m.length∧∀d∈out',d∈out∨d∈m
 |[],out,out',h=>by cases h;simp|c::m,out,out',h=>by
  simp only[zQ,ZAE,ZAB]at h;obtain⟨s,h3,h4⟩:=h;obtain⟨h5,h6⟩:=Oe h4;have h7:s=out∨s=out++[c]:=by
   unfold IZ at h3;split at h3;·cases h3;exact .inr rfl
   ·split at h3;·split at h3<;>cases h3;exact .inl rfl
    ·split at h3;·split at h3<;>cases h3;exact .inl rfl
     ·cases h3;exact .inr rfl
  rcases h7 with rfl|rfl
  ·refine⟨by simp only[yX];omega,λd hd=>?_⟩;rcases h6 d hd with h|h;·exact .inl h
   ·exact .inr (by simp[h])
  ·refine⟨by simp only[yX,yU,zF]at*;omega,λd hd=>?_⟩;rcases h6 d hd with h|h
   ·rcases List.mem_append.1 h with h|h;·exact .inl h
    ·simp only[zC]at h;subst h;exact .inr (by simp)
   ·exact .inr (by simp[h])
theorem uJ{l out:List O}(h:A2 l)(hs:FE l=some out):A2 out:=by
 unfold FE at hs;split at hs;·cases hs
 ·obtain⟨h1,h2⟩:=Oe hs;have :=h.1;exact⟨by simp at h1;omega,λd hd=>(h2 d hd).elim (by simp) (h.2 d)⟩
theorem cE{P:O→Prop}{l out:List O}(h:∀d∈l,P d)(hs:FE l=some out):∀d∈out,P d:=by
 unfold FE at hs;split at hs;·cases hs
 ·exact λd hd=>((Oe hs).2 d hd).elim (by simp) (h d)
theorem Co{α:Type}(o:Option α):o=none∨∃x,o=some x:=by cases o<;>simp
theorem If(p:List O):Aa p=if CD p then([],true,(0:Int))else match(E9 (B8 (Ai p))).bind FE with|none=>([],true,(0:Int))|some out=>if(Ai p).any (λc=>!AJ c)||decide (96<(Au out).length)then([],false,3)else(Au out,false,0):=rfl
theorem DS.fn_eq(l:List O):DS.fn (l,())=match E9 l with|none=>([],true)|some out=>(out,false):=rfl
theorem Wq{b:List O}{i:Nat}(h:i<b.length):Fs (b.take (i+1))=Hc (Fs (b.take i)) (b.getD i U):=by rw[BN U h,Fs,ZBF];rfl
theorem iD{b:List O}{i:Nat}(h:i<b.length):(Fs (b.take (i+1))).getLast?=some (b.getD i U):=by rw[Wq h];exact iE _ _
theorem Wo{b:List O}{i:Nat}(h:i+1<b.length):Fs (b.take (i+2))=if b.getD (i+1) U=b.getD i U then Fs (b.take (i+1))else Fs (b.take (i+1))++[b.getD (i+1) U]:=by
 rw[Wq h,Hc,iD (by omega)];by_cases e:b.getD (i+1) U=b.getD i U;·rw[yS e,yS (by rw[e])]
 ·rw[yP e,yP λh=>e (ZBJ h).symm]
theorem AE.spec(p:List O)(hp:AE.pre (p,())):AE.wp p λr=>r=AE.fn (p,()):=by
 have hp':A2 p:=hp;have hl:=hp'.1;have hQ:AE.fn (p,())=Aa p:=rfl;simp only[AE.wp,hQ];refine Lp.foldO p U K6 [] (by omega) ?_ ?_
 ·intro i out R e e2 hf ht BA A8;have hb:=hp'.2 _ (AX (d:=U) e);have hlen:=Pl (f:=K6) λt x t' h=>by
   unfold K6 at h;split at h;·cases h
   ·split at h<;>(cases h;simp) _ _ _ ht;simp only[zF,zG]at hlen;simp only[yO e2,yQ,yR];refine⟨⟨by omega,by omega⟩,hb,?_⟩;simp only[K6]at BA A8;by_cases h1:(AV (p.getD i U)).2<0;·simp only[BU.fn,yO h1,yR];have :=A8 (by rw[yS h1]);rw[VE]at this;rw[If];cases hv:CD p with|true=>rfl|false=>rw[hv]at this;cases this
  ·simp only[BU.fn,yV h1,yN];rw[yP h1]at BA;by_cases h2:(AV (p.getD i U)).2=0;·rw[yS h2]at BA;simp only[h2,ZAG,yR];exact⟨⟨by simp;omega,by simp;omega⟩,hf,BA _ rfl⟩
   ·rw[yP h2]at BA;simp only[beq_eq_false_iff_ne.2 h2,yN];exact⟨hf,BA _ rfl⟩
 intro raws R GU;rw[VE]at GU;have hv:CD p=false:=by cases h:CD p with|true=>rw[h]at GU;cases GU|false=>rfl
 rw[hv]at GU;simp only[zY,ZAY,ZAk,ZA5]at GU;subst GU;simp only[yY,yZ,yN];have T6:=Qq hp';have IQ:Aa p=match(E9 (B8 (Ai p))).bind FE with|none=>([],true,(0:Int))|some out=>if(Ai p).any (λc=>!AJ c)||decide (96<(Au out).length)then([],false,3)else(Au out,false,0):=by rw[If,hv];rfl
 generalize Ai p=l at*;generalize hT:Aa p=T at*;have IJ:=Zq T6;refine⟨λ_ _=>trivial,sS T6,IJ,?_⟩;simp only[DS.fn_eq,Dk.fn];rcases Co (E9 (B8 l))with Ea|⟨out,Ea⟩;·simp only[Ea,yR];rw[IQ,Ea];rfl
 ·simp only[Ea,yN];rw[Ea]at IQ;simp only[ZAv]at IQ;have QD:=bA IJ Ea;have Du:=QD.1;have hin:∀i,i<out.length→condB (out.getD i U):=λi hi=>QD.2 _ (AX hi);clear Ea IJ T6 hp' hp;refine Lp.iter out.length (λi y=>y.1=(i:Int)∧(out.take i).foldlM Gp []=some (out.take i)∧∀C,y.2 (B6 (Bg C 1))=Da C (out.take i)) ⟨rfl,rfl,λC=>rfl⟩ ?_;rintro i⟨y,m⟩hle⟨hy,hf,hm⟩R hR;simp only at hy hm;subst hy;by_cases e:i<out.length
  ·have hb:=hin i e;have C9:=BN U e;have Lt:(out.take (i+1)).foldlM Gp []=Gp (out.take i) (out.getD i U):=by rw[C9,ZAz,hf];show(Gp _ _).bind _=_;cases Gp (out.take i) (out.getD i U)<;>rfl
   have MK:Gp (out.take i) (out.getD i U)=none→T=([],true,0):=λh=>by
    have h1:out.foldlM Gp []=none:=by rw[←ZAx (i+1) out,ZAz,Lt,h];rfl
    rw[IQ,FE,h1]
   simp only[yO (show(i:Int)<(out.length:Int)by omega),yQ,yR];refine⟨⟨by omega,by omega⟩,?_⟩;by_cases hk:(out.getD i U).1=1
   ·simp only[hk,zJ,yN,Br.fn];have hg:∀b:Bool,b=true→b=true∧True:=λb h=>⟨h,trivial⟩;refine⟨⟨hb.2.1,Jf hb.2,.inl rfl⟩,hg _,hg _,λh=>⟨h,h,trivial⟩,λh=>h,?_⟩;simp only[hm];have hstep:Gp (out.take i) (out.getD i U)=match Da (out.getD i U).2.2.1 (out.take i)with|some n=>if n≠(out.getD i U).2.2.2 then none else some (out.take i++[out.getD i U])|none=>some (out.take i++[out.getD i U]):=by unfold Gp;exact yP λh=>h hk
    have BG:∀C,CA m (B6 (Bg (out.getD i U).2.2.1 1)) (out.getD i U).2.2.2 (B6 (Bg C 1))=Da C (out.take (i+1)):=λC=>by
     rw[C9,XY];simp only[CA,UQ];by_cases hC:C=(out.getD i U).2.2.1;·rw[yS hC,yS ⟨hk,hC.symm⟩]
     ·rw[yP hC,yP λh=>hC h.2.symm];exact hm C
    cases hq:Da (out.getD i U).2.2.1 (out.take i)with|none=>rw[hq]at hstep;simp only[ZBe,ZCQ,yN];refine⟨⟨by omega,by omega⟩,hR e _ ⟨rfl,?_,BG⟩⟩;rw[Lt,hstep,C9]|some n=>
     rw[hq]at hstep;simp only[ZBz,ZBc,ZBu];by_cases hn:n=(out.getD i U).2.2.2;·simp only[hn,zJ,yN];refine⟨⟨by omega,by omega⟩,hR e _ ⟨rfl,?_,BG⟩⟩;rw[Lt,C9];exact hstep.trans (yP λh=>h hn)
     ·simp only[bne_iff_ne.2 hn,yR];exact(MK (hstep.trans (yS hn))).symm
   ·simp only[bne_iff_ne.2 hk,yR];refine⟨⟨by omega,by omega⟩,hR e _ ⟨rfl,?_,λC=>?_⟩⟩;·rw[Lt,C9];exact yS hk
    ·rw[C9,XY,yP λh=>hk h.1];exact hm C
  have Tm:i=out.length:=by omega
  subst Tm;clear hR hle;simp only[yY,yZ,yN];rw[zA]at hf hm;have BJ:FE out=out.foldlM (IZ out) []:=by rw[FE,hf]
  rw[BJ]at IQ;refine Lp.foldO out U (IZ out) [] (by omega) ?_ ?_
  ·intro i o2 R e e2 KX ht BA A8;have hb:=hin i e;obtain⟨hlen,_⟩:=Oe ht;simp only[zF,zG]at hlen;simp only[yO e2,yQ,yR];refine⟨⟨by omega,by omega⟩,?_⟩;have MK:IZ out o2 (out.getD i U)=none→T=([],true,0):=λh=>by rw[IQ,A8 h]
   clear A8;by_cases hk:(out.getD i U).1=0
   ·simp only[hk,ZAG,yR,Br.fn];refine⟨⟨hb.2.1,Jf hb.2,.inl rfl⟩,?_⟩;simp only[Zd.2 (rfl:Al (out.getD i U).2.2.1=_),hm];have hstep:IZ out o2 (out.getD i U)=match Da (out.getD i U).2.2.1 out with|some n=>if(out.getD i U).2.2.2<n then none else some o2|none=>match Da (Al (out.getD i U).2.2.1) out with|some n=>if(out.getD i U).2.2.2+n<0 then none else some o2|none=>some (o2++[out.getD i U]):=by unfold IZ;exact yP λh=>h hk
    cases hq:Da (out.getD i U).2.2.1 out with|some n=>
     rw[hq]at hstep;simp only[ZBz,ZBc,yR]at hstep⊢;by_cases hn:(out.getD i U).2.2.2<n;·simp only[yO hn,yR];exact(MK (by rw[hstep,yS hn])).symm
     ·simp only[yV hn,yN];exact⟨KX,BA _ (by rw[hstep,yP hn])⟩|none=>rw[hq]at hstep;simp only[ZBe,yN]at hstep⊢;refine⟨⟨hb.2.1,Jf hb.2,.inr rfl⟩,?_⟩;cases Ix:Da (Al (out.getD i U).2.2.1) out with
     |some n=>
      rw[Ix]at hstep;obtain⟨d,hd,_,_,Hj⟩:=Pe Ix;have q1:=(QD.2 d hd).2.2.2;have q2:=hb.2.2.2;rw[Hj]at q1;unfold Bj at q1 q2;simp only[ZBz,ZBc,yR]at hstep⊢;refine⟨⟨by omega,by omega⟩,?_⟩;by_cases hn:(out.getD i U).2.2.2+n<0;·simp only[yO hn,yR];exact(MK (by rw[hstep,yS hn])).symm
      ·simp only[yV hn,yN];exact⟨KX,BA _ (by rw[hstep,yP hn])⟩|none=>rw[Ix]at hstep;simp only[ZBe,yN]at hstep⊢;exact⟨⟨by simp;omega,by simp;omega⟩,KX,BA _ hstep⟩
   ·simp only[beq_eq_false_iff_ne.2 hk,yN];exact⟨⟨by simp;omega,by simp;omega⟩,KX,BA _ (yS hk)⟩
  intro res R N3;simp only[yY,yZ,yN];rw[N3]at IQ;simp only at IQ;obtain⟨F3,ZC⟩:=Oe N3;simp only[zF,ZAJ]at F3;have Ex:K3 res:=λd hd=>(ZC d hd).elim (by simp) λh=>(QD.2 d h).k3;clear N3 BJ hm hf hin ZC;refine⟨⟨by omega,λa ha b hb=>⟨Ex a ha,Ex b hb⟩⟩,λb8 mN=>?_⟩;obtain⟨hperm,IN⟩:=mN;have DD:=iC Ex hperm IN;have YW:b8.length≤1048576:=by have :=hperm.length_eq;omega
  have Px:∀i,i<b8.length→GW (b8.getD i U).1:=λi hi=>Ex _ (hperm.mem_iff.2 (AX hi));rw[←DD]at IQ;clear DD hperm IN F3 Ex;have HH:∀(b:Bool)(r:List O),b=(l.any λc=>!AJ c)→r=Fs b8→cond (b||decide ((96:Int)<(r.length:Int))) ((([]:List O),false,(3:Int))=T) ((r,false,(0:Int))=T):=by rintro b r rfl rfl;rw[IQ];have e:decide ((96:Int)<((Fs b8).length:Int))=decide (96<(Fs b8).length):=decide_eq_decide.2 (by omega);rw[e];cases h:(l.any λc=>!AJ c)||decide (96<(Fs b8).length)<;>rfl
  have hg:∀b:Bool,b=true→b=true∧True:=λb h=>⟨h,trivial⟩;have Ti:∀b:Bool,b=false→(!b)=true:=λb h=>by rw[h];rfl
  by_cases hs:b8.length<2;·simp only[yO (show((b8.length:Nat):Int)<2 by omega),yR];refine⟨hg _,hg _,Ti _,HH _ _ rfl ?_⟩;match b8,hs with|[],_=>rfl|[x],_=>rfl
  simp only[yV (show¬((b8.length:Nat):Int)<2 by omega),yN];refine Lp.iter (b8.length-1) (λi y=>y=(i:Int)+1∧Fs (b8.take (i+1))=b8.take (i+1)) ⟨rfl,?_⟩ ?_;·match b8,hs with|x::b,_=>rfl|[],h=>exact absurd (by simp) h
  rintro i y hle⟨rfl,hc⟩R hR;by_cases e:i+1<b8.length
  ·have t1:((i:Int)+1).toNat=i+1:=by omega
   have t2:((i:Int)+1-1).toNat=i:=by omega
   simp only[yO (show(i:Int)+1<(b8.length:Int)by omega),yR,t1,t2];have k1:=Px (i+1) e;have k2:=Px i (by omega);have hcs:=Wo e;refine⟨⟨by omega,by omega⟩,by omega,⟨by omega,by omega⟩,⟨by omega,by omega⟩,by omega,⟨k1,k2⟩,?_⟩;by_cases heq:b8.getD (i+1) U=b8.getD i U
   ·have :(C1 (b8.getD (i+1) U) (b8.getD i U)==0)=true:=by rw[heq,Qi];rfl
    simp only[DI.fn,this,yR];rw[yS heq]at hcs;refine⟨⟨by omega,by omega⟩,?_⟩;clear hR;refine Lp.iter (b8.length-(i+1)-1) (λk y=>y.1=(k:Int)+1∧∃n:Nat,y.2.1=(n:Int)∧n≤i+1+k∧y.2.2.length=b8.length∧Fs (b8.take (i+1+k+1))=y.2.2.take n∧∀j,i+1+k≤j→y.2.2.getD j U=b8.getD j U) ⟨rfl,i+1,rfl,by omega,rfl,by rw[←hc,←hcs],λj _=>rfl⟩ ?_;rintro k⟨y1,y2,a⟩yB⟨JY,n,ZM,hn,hal,hca,A4⟩R2 A8;simp only at JY ZM hal hca A4;subst JY ZM;by_cases e2:i+1+k+1<b8.length
    ·have t3:((k:Int)+1).toNat=k+1:=by omega
     have t4:((k:Int)+1-1).toNat=k:=by omega
     simp only[yO (show(k:Int)+1<((b8.length-(i+1):Nat):Int)by omega),yR,t3,t4,yQ,ZAJ];have g1:a.getD (i+1+(k+1)) U=b8.getD (i+1+k+1) U:=A4 _ (by omega);have g2:a.getD (i+1+k) U=b8.getD (i+1+k) U:=A4 _ (by omega);simp only[g1,g2];have k3:=Px (i+1+k+1) e2;have k4:=Px (i+1+k) (by omega);have P1:=Wo e2;refine⟨⟨by omega,by omega,by omega⟩,by omega,⟨by omega,by omega⟩,⟨by omega,by omega,by omega⟩,by omega,⟨k3,k4⟩,?_⟩;by_cases P3:b8.getD (i+1+k+1) U=b8.getD (i+1+k) U
     ·have :(C1 (b8.getD (i+1+k+1) U) (b8.getD (i+1+k) U)==0)=true:=by rw[P3,Qi];rfl
      simp only[DI.fn,this,zU,yN];rw[yS P3]at P1;refine⟨⟨by omega,by omega⟩,A8 (by omega) _ ⟨by simp,n,rfl,by omega,hal,?_,λj hj=>A4 j (by omega)⟩⟩;rw[show i+1+(k+1)+1=i+1+k+2 by omega,P1,hca]
     ·have :(C1 (b8.getD (i+1+k+1) U) (b8.getD (i+1+k) U)==0)=false:=beq_eq_false_iff_ne.2 λh=>P3 (Qg k3 k4 h);simp only[DI.fn,this,ZAu,yR];rw[yP P3]at P1;refine⟨⟨by omega,by omega,by omega⟩,by omega,⟨by omega,by omega⟩,by omega,⟨by omega,by omega⟩,⟨by omega,by omega⟩,A8 (by omega) _ ⟨by simp,n+1,by simp,by omega,by simp[hal],?_,λj hj=>?_⟩⟩
      ·rw[show i+1+(k+1)+1=i+1+k+2 by omega,P1,hca];simp only;rw[List.take_set,List.take_add_one,ZBh _ _ (by simp;omega)];have oK:n-(a.take n).length=0:=by simp;omega
       rw[oK,zK (show n<a.length by omega)];rfl
      ·simp only;rw[yT,ZCl (by omega),←yT];exact A4 j (by omega)
    ·have hk:i+1+k+1=b8.length:=by omega
     simp only[yV (show¬(k:Int)+1<((b8.length-(i+1):Nat):Int)by omega),yN,yQ,ZAJ];rw[hk,zA]at hca;have GO:List.drop (n+(a.length-n)) a=[]:=ZCX (by omega);simp only[GO,ZAT,ZCt];have JX:List.take n (a.take n++List.replicate (a.length-n) U)=a.take n:=by rw[ZB3 (by simp;omega),ZDV,Nat.min_self]
     have IK:(a.take n++List.replicate (a.length-n) U).length=a.length:=by simp;omega
     simp only[JX,IK];exact⟨⟨by omega,by omega⟩,by omega,⟨by omega,by omega⟩,by omega,hg _,hg _,Ti _,HH _ _ rfl hca.symm⟩
   ·have :(C1 (b8.getD (i+1) U) (b8.getD i U)==0)=false:=beq_eq_false_iff_ne.2 λh=>heq (Qg k1 k2 h);simp only[DI.fn,this,yN];rw[yP heq]at hcs;refine⟨⟨by omega,by omega⟩,hR (by omega) _ ⟨by omega,?_⟩⟩;rw[hcs,hc,BN U e]
  ·have hi:i+1=b8.length:=by omega
   simp only[yV (show¬(i:Int)+1<(b8.length:Int)by omega),yN];rw[hi,zA]at hc;exact⟨hg _,hg _,Ti _,HH _ _ rfl hc.symm⟩
abbrev CE.fn(x:List (List O)×Unit):List O:=x.1.flatten
abbrev CE.pre(x:List (List O)×Unit):Prop:=x.1.length≤1048576∧x.1.flatten.length≤1048576
abbrev Dl.fn(x:List (List (List O))×Unit):List (List O):=x.1.flatten
abbrev Dl.pre(x:List (List (List O))×Unit):Prop:=x.1.length≤1048576∧x.1.flatten.length≤1048576
def BB(out:List (List O))(p:List O):Option (List (List O)):=if(Aa p).2.2≠0 then none else if(Aa p).2.1=true∨(Aa p).1∈out then some out else if 400<out.length+1 then none else some (out++[(Aa p).1])
def B7(l:List (List O)):Option (List (List O)):=l.foldlM BB []
def CW(n:Int)(o:Option (List (List O))):AG×Int:=match o with|none=>((0,[]),3)|some out=>((n,out),0)
def A1(x:AG):AG×Int:=if AD x=false then((0,[]),1)else CW x.1 (B7 x.2)
abbrev Ap.fn(x:AG×Unit):AG×Int:=A1 x.1
def Er(x y:AG):AG×Int:=if Dn x y≠0 then((0,[]),Dn x y)else CW x.1 (B7 (x.2++y.2))
abbrev EU.fn(x:AG×AG×Unit):AG×Int:=Er x.1 x.2.1
def EO(a b:List (List O)):List (List O):=a.flatMap λp=>b.map λq=>p++q
def Ef(x y:AG):AG×Int:=if Dn x y≠0 then((0,[]),Dn x y)else CW x.1 (B7 (EO x.2 y.2))
abbrev ER.fn(x:AG×AG×Unit):AG×Int:=Ef x.1 x.2.1
def Ia(p:List O)(n:Int):List O×Bool×Int:=if n<0∨12<n then([],false,6)else if 384<p.length then([],false,3)else if p.any λc=>!AJ c then([],false,1)else if DN p n=false then([],false,2)else Aa p
abbrev Gi.fn(x:O×Unit):Bool:=!AJ x.1
abbrev Fp.fn(x:List O×Int×Unit):List O×Bool×Int:=Ia x.1 x.2.1
def EY(a b:List O)(out:List (List O))(i:Nat):Option (List (List O)):=if(B4 (b.getD i U)).2≠0 then none else some (out++(B4 (b.getD i U)).1.map λo=>a++(b.take i++[o]))
def Bn(a b:List O):List (List O)×Int:=if(Aa (a++b)).2.2≠0 then([],3)else if(Aa (a++b)).2.1=true then([a],0)else match(List.range b.length).foldlM (EY a b) []with|none=>([],3)|some out=>(out,0)
def Bs(p:List O):Prop:=p.length≤4096∧∀c∈p,AJ c=true
abbrev ED.fn(x:List O×List O×Unit):List (List O)×Int:=Bn x.1 x.2.1
abbrev ED.pre(x:List O×List O×Unit):Prop:=Bs x.1∧Bs x.2.1
def Gv(cur:List (List O))(b:List O):Option (List (List O)):=cur.foldlM (λout a=>if(Bn a b).2≠0 then none else(Bn a b).1.foldlM BB out) []
def BQ(x y:AG):AG×Int:=if Dn x y≠0 then((0,[]),Dn x y)else if(A1 x).2≠0∨(A1 y).2≠0 then((0,[]),3)else CW x.1 ((A1 y).1.2.foldlM Gv (A1 x).1.2)
abbrev C3.fn(x:AG×AG×Unit):AG×Int:=BQ x.1 x.2.1
abbrev Eo.fn(x:List (List O)×((List O→Prop)×(List O→Bool))×Unit):Int:=FV x.2.1.2 x.1 0
abbrev Eo.pre(x:List (List O)×((List O→Prop)×(List O→Bool))×Unit):Prop:=∀c∈x.1,x.2.1.1 c
abbrev FF.fn(x:List (List O)×((List O→Prop)×(List O→Bool))×Unit):Bool:=x.1.any x.2.1.2
abbrev FF.pre(x:List (List O)×((List O→Prop)×(List O→Bool))×Unit):Prop:=∀c∈x.1,x.2.1.1 c
def Bm(n:Int):Bool:=decide (-4294967296≤n)&&decide (n≤4294967296)
def Az:List Int→List Int→Int|x::a,y::b=>x*y+Az a b|_,_=>0
def Eu(a b:List Int):Int×Int:=if a.length≠b.length then(0,2)else if 12<a.length then(0,3)else if(a.zip b).all λp=>Bw p.1&&Bm p.2 then(Az a b,0)else(0,6)
abbrev Fa.fn(x:List Int×List Int×Unit):Int×Int:=Eu x.1 x.2.1
def Hb(l:AT)(p:List Int):Int×Int:=if BI l=false then(0,1)else if(Eu l.1 p).2≠0 then(0,(Eu l.1 p).2)else(l.2+(Eu l.1 p).1,0)
abbrev FZ.fn(x:AT×List Int×Unit):Int×Int:=Hb x.1 x.2.1
def FH(c:O)(v:Int):Bool:=if c.1=0 then decide (0≤v)else if c.1=1 then v==0 else v.tmod c.2.1==0
def F1(c:O)(p:List Int):Bool×Int:=if AJ c=false then(false,1)else if(Hb c.2.2 p).2≠0 then(false,(Hb c.2.2 p).2)else(FH c (Hb c.2.2 p).1,0)
abbrev Ft.fn(x:O×List Int×Unit):Bool×Int:=F1 x.1 x.2.1
abbrev Gg.fn(x:O×List Int×Unit):Bool:=!(F1 x.1 x.2.1).1
abbrev Gf.fn(x:List O×List Int×Unit):Bool:=!x.1.any λc=>!(F1 c x.2.1).1
def EZ(s:AG)(p:List Int):Bool×Int:=if AD s=false then(false,1)else if((p.length:Nat):Int)≠s.1 then(false,2)else if p.all Bm=false then(false,6)else(s.2.any λq=>!q.any λc=>!(F1 c p).1,0)
abbrev D9.fn(x:AG×List Int×Unit):Bool×Int:=EZ x.1 x.2.1
def Ap.wp(x0:Int×List (List O))(Q:(Int×List (List O))×Int→Prop):Prop:=cond (! Bf.fn (x0,())) (Q ((0,([]:List (List O))),1)) (Lp (σ:=Int×List (List O)×(ByteArray→Option Bool)) (λy2 R2=>let v0:=x0.2.getD y2.1.toNat ([]:List O);let v1:=BT.fn ((AE.fn (v0,())).1,());let v3:=[(AE.fn (v0,())).1];cond (decide (y2.1<x0.2.length)) ((0≤y2.1∧y2.1<x0.2.length)∧AE.pre (v0,())∧cond (((AE.fn (v0,())).2).2 !=0) (cond (((AE.fn (v0,())).2).2 !=0) (Q ((0,([]:List (List O))),((AE.fn (v0,())).2).2)) (Q ((x0.1,([]:List (List O))),0))) (((!((AE.fn (v0,())).2).1)=true→(!((AE.fn (v0,())).2).1)=true∧BT.pre ((AE.fn (v0,())).1,()))∧((!((AE.fn (v0,())).2).1)=true→(!((AE.fn (v0,())).2).1)=true∧(!((AE.fn (v0,())).2).1)=true∧True)∧(((AE.fn (v0,())).2).1=false→(!((AE.fn (v0,())).2).1)=true)∧cond (((AE.fn (v0,())).2).1||Option.getD (y2.2.2 v1) false) (AB .i64 (y2.1+1)∧R2 ( y2.1+1,y2.2)) (BT.pre ((AE.fn (v0,())).1,())∧((y2.2.1.length+v3.length)*24≤140737488355328∧y2.2.1.length+v3.length≤9223372036854775807)∧cond (decide (400<(( List.length (y2.2.1++v3):Nat):Int))) (Q ((0,([]:List (List O))),3)) (AB .i64 (y2.1+1)∧R2 ( y2.1+1,( y2.2.1++v3,CA y2.2.2 v1 true)))))) (Q ((x0.1,y2.2.1),0))) (0,(([]:List (List O)),λ(a2:ByteArray)=>(none:Option Bool))))
def CE.wp(x0:List (List O))(Q:List O→Prop):Prop:=Lp (σ:=Int×Int) (λy2 R2=>let v0:=x0.getD y2.1.toNat ([]:List O);cond (decide (y2.1<x0.length)) ((0≤y2.1∧y2.1<x0.length)∧AB .i64 (y2.2+v0.length)∧cond (decide ( y2.2+v0.length<0)) False (AB .i64 (y2.1+1)∧R2 ( y2.1+1,y2.2+v0.length))) (cond (decide (y2.2<0)) False (AB .i64 (0-0)∧AB .i64 (y2.2-(0-0))∧cond (decide (0<y2.2-(0-0))) ((0≤(0:Int)∧0≤((0:Nat):Int))∧(0≤y2.2-(0-0)∧(y2.2-(0-0))*((48:Nat):Int)≤140737488355328∧y2.2-(0-0)≤9223372036854775807)∧(0≤(0:Int)∧0≤((List.length (.replicate (Int.toNat (y2.2-(0-0))) U):Nat):Int))∧Lp (σ:=Int×List O) (λy4 R4=>let v3:=x0.getD y4.1.toNat ([]:List O);cond (decide (y4.1<x0.length)) ((0≤y4.1∧y4.1<x0.length)∧((y4.2.length+v3.length)*48≤140737488355328∧y4.2.length+v3.length≤9223372036854775807)∧AB .i64 (y4.1+1)∧R4 ( y4.1+1,y4.2++v3)) (Q y4.2)) (0,([]:List O))) (Lp (σ:=Int×List O) (λy4 R4=>let v3:=x0.getD y4.1.toNat ([]:List O);cond (decide (y4.1<x0.length)) ((0≤y4.1∧y4.1<x0.length)∧((y4.2.length+v3.length)*48≤140737488355328∧y4.2.length+v3.length≤9223372036854775807)∧AB .i64 (y4.1+1)∧R4 ( y4.1+1,y4.2++v3)) (Q y4.2)) (0,([]:List O)))))) (0,0)
def Dl.wp(x0:List (List (List O)))(Q:List (List O)→Prop):Prop:=Lp (σ:=Int×Int) (λy2 R2=>let v0:=x0.getD y2.1.toNat ([]:List (List O));cond (decide (y2.1<x0.length)) ((0≤y2.1∧y2.1<x0.length)∧AB .i64 (y2.2+v0.length)∧cond (decide ( y2.2+v0.length<0)) False (AB .i64 (y2.1+1)∧R2 ( y2.1+1,y2.2+v0.length))) (cond (decide (y2.2<0)) False (AB .i64 (0-0)∧AB .i64 (y2.2-(0-0))∧cond (decide (0<y2.2-(0-0))) ((0≤(0:Int)∧0≤((0:Nat):Int))∧(0≤y2.2-(0-0)∧(y2.2-(0-0))*((24:Nat):Int)≤140737488355328∧y2.2-(0-0)≤9223372036854775807)∧(0≤(0:Int)∧0≤((List.length (.replicate (Int.toNat (y2.2-(0-0))) ([]:List O)):Nat):Int))∧Lp (σ:=Int×List (List O)) (λy4 R4=>let v3:=x0.getD y4.1.toNat ([]:List (List O));cond (decide (y4.1<x0.length)) ((0≤y4.1∧y4.1<x0.length)∧((y4.2.length+v3.length)*24≤140737488355328∧y4.2.length+v3.length≤9223372036854775807)∧AB .i64 (y4.1+1)∧R4 ( y4.1+1,y4.2++v3)) (Q y4.2)) (0,([]:List (List O)))) (Lp (σ:=Int×List (List O)) (λy4 R4=>let v3:=x0.getD y4.1.toNat ([]:List (List O));cond (decide (y4.1<x0.length)) ((0≤y4.1∧y4.1<x0.length)∧((y4.2.length+v3.length)*24≤140737488355328∧y4.2.length+v3.length≤9223372036854775807)∧AB .i64 (y4.1+1)∧R4 ( y4.1+1,y4.2++v3)) (Q y4.2)) (0,([]:List (List O))))))) (0,0)
def ED.wp(x0:List O)(x1:List O)(Q:List (List O)×Int→Prop):Prop:=let v0:=CE.fn ([x0,x1],());CE.pre ([x0,x1],())∧AE.pre (v0,())∧cond (((AE.fn (v0,())).2).2 !=0) (Q (([]:List (List O)),((AE.fn (v0,())).2).2)) (cond ((AE.fn (v0,())).2).1 (Q ([x0],0)) (Lp (σ:=Int×List (List O)) (λy3 R3=>let v2:=FK.fn ( x1.getD y3.1.toNat U,());let v3:=List.take y3.1.toNat x1;cond (decide (y3.1<x1.length)) ((0≤y3.1∧y3.1<x1.length)∧cond (v2.2 !=0) (Q (([]:List (List O)),v2.2)) (Lp (σ:=Int×List (List O)) (λy5 R5=>let v4:=v2.1.getD y5.1.toNat U;let v5:=CE.fn ([x0,v3,[v4]],());cond (decide (y5.1<v2.1.length)) ((0≤y5.1∧y5.1<v2.1.length)∧(0≤y3.1∧y3.1≤x1.length)∧CE.pre ([x0,v3,[v4]],())∧((y5.2.length+List.length [v5])*24≤140737488355328∧y5.2.length+List.length [v5]≤9223372036854775807)∧AB .i64 (y5.1+1)∧R5 ( y5.1+1,y5.2++[v5])) (AB .i64 (y3.1+1)∧R3 ( y3.1+1,y5.2))) (0,y3.2))) (Q (y3.2,0))) (0,([]:List (List O)))))
def C3.wp(x0:Int×List (List O))(x1:Int×List (List O))(Q:(Int×List (List O))×Int→Prop):Prop:=let v0:=EF.fn (x0,(x1,()));let v1:=List.length ((Ap.fn (x1,())).1).2;cond (v0 !=0) (Q ((0,([]:List (List O))),v0)) (( !(Ap.fn (x0,())).2 !=0=true→!(Ap.fn (x0,())).2 !=0=true∧True)∧(((Ap.fn (x0,())).2 !=0)=false→(!(Ap.fn (x0,())).2 !=0)=true)∧cond ((Ap.fn (x0,())).2 !=0||(Ap.fn (x1,())).2 !=0) (Q ((0,([]:List (List O))),3)) (Lp (σ:=Int×Int×Int×List (List O)×Int) (λy3 R3=>let v3:=List.getD ((Ap.fn (x1,())).1).2 y3.1.toNat ([]:List O);cond (decide (y3.1<((v1:Nat):Int))) ((0≤y3.1∧y3.1<((v1:Nat):Int))∧Lp (σ:=Int×List (List O)×(ByteArray→Option Bool)) (λy5 R5=>let v2:=y3.2.2.2.1.getD y5.1.toNat ([]:List O);let v4:=ED.fn (v2,(v3,()));cond (decide (y5.1<y3.2.2.2.1.length)) ((0≤y5.1∧y5.1<y3.2.2.2.1.length)∧ED.pre (v2,(v3,()))∧cond (v4.2 !=0) (( ! 0 !=0=true→! 0 !=0=true∧True)∧((0 !=0)=false→! 0 !=0=true)∧cond ( 0 !=0||v4.2 !=0) (Q ((0,([]:List (List O))),3)) (AB .i64 (y3.1+1)∧R3 ( y3.1+1,(0,(x0.1,(y5.2.1,v4.2)))))) (Lp (σ:=Int×List (List O)×(ByteArray→Option Bool)) (λy7 R7=>let v5:=v4.1.getD y7.1.toNat ([]:List O);let v6:=BT.fn ((AE.fn (v5,())).1,());let v8:=[(AE.fn (v5,())).1];cond (decide (y7.1<v4.1.length)) ((0≤y7.1∧y7.1<v4.1.length)∧AE.pre (v5,())∧cond (((AE.fn (v5,())).2).2 !=0) (cond (((AE.fn (v5,())).2).2 !=0) (((!((AE.fn (v5,())).2).2 !=0)=true→!((AE.fn (v5,())).2).2 !=0=true∧True)∧((((AE.fn (v5,())).2).2 !=0)=false→!((AE.fn (v5,())).2).2 !=0=true)∧cond (((AE.fn (v5,())).2).2 !=0||y3.2.2.2.2 !=0) (Q ((0,([]:List (List O))),3)) (AB .i64 (y3.1+1)∧R3 ( y3.1+1,(((AE.fn (v5,())).2).2,(0,(([]:List (List O)),y3.2.2.2.2)))))) (( ! 0 !=0=true→(! 0 !=0)=true∧True)∧((0 !=0)=false→! 0 !=0=true)∧cond ( 0 !=0||y3.2.2.2.2 !=0) (Q ((0,([]:List (List O))),3)) (AB .i64 (y3.1+1)∧R3 ( y3.1+1,(0,(x0.1,(([]:List (List O)),y3.2.2.2.2))))))) (((!((AE.fn (v5,())).2).1)=true→(!((AE.fn (v5,())).2).1)=true∧BT.pre ((AE.fn (v5,())).1,()))∧((!((AE.fn (v5,())).2).1)=true→(!((AE.fn (v5,())).2).1)=true∧(!((AE.fn (v5,())).2).1)=true∧True)∧(((AE.fn (v5,())).2).1=false→(!((AE.fn (v5,())).2).1)=true)∧cond (((AE.fn (v5,())).2).1||Option.getD (y7.2.2 v6) false) (AB .i64 (y7.1+1)∧R7 ( y7.1+1,y7.2)) (BT.pre ((AE.fn (v5,())).1,())∧((y7.2.1.length+v8.length)*24≤140737488355328∧y7.2.1.length+v8.length≤9223372036854775807)∧cond (decide (400<(( List.length (y7.2.1++v8):Nat):Int))) (((! 3 !=0)=true→! 3 !=0=true∧True)∧((3 !=0)=false→(! 3 !=0)=true)∧Q ((0,([]:List (List O))),3)) (AB .i64 (y7.1+1)∧R7 ( y7.1+1,( y7.2.1++v8,CA y7.2.2 v6 true)))))) (AB .i64 (y5.1+1)∧R5 ( y5.1+1,y7.2))) (0,y5.2))) (((! 0 !=0)=true→! 0 !=0=true∧True)∧((0 !=0)=false→! 0 !=0=true)∧cond ( 0 !=0||y3.2.2.2.2 !=0) (Q ((0,([]:List (List O))),3)) (AB .i64 (y3.1+1)∧R3 ( y3.1+1,(0,(x0.1,(y5.2.1,y3.2.2.2.2))))))) (0,(([]:List (List O)),λ(a5:ByteArray)=>(none:Option Bool)))) (Q ((y3.2.2.1,y3.2.2.2.1),0))) (0,((Ap.fn (x0,())).2,(((Ap.fn (x0,())).1).1,(((Ap.fn (x0,())).1).2,0))))))
def ER.wp(x0:Int×List (List O))(x1:Int×List (List O))(Q:(Int×List (List O))×Int→Prop):Prop:=let v0:=EF.fn (x0,(x1,()));cond (v0 !=0) (Q ((0,([]:List (List O))),v0)) (Lp (σ:=Int×List (List O)×(ByteArray→Option Bool)) (λy3 R3=>let v1:=x0.2.getD y3.1.toNat ([]:List O);cond (decide (y3.1<x0.2.length)) ((0≤y3.1∧y3.1<x0.2.length)∧Lp (σ:=Int×List (List O)×(ByteArray→Option Bool)) (λy5 R5=>let v2:=x1.2.getD y5.1.toNat ([]:List O);let v3:=CE.fn ([v1,v2],());let v4:=BT.fn ((AE.fn (v3,())).1,());let v6:=[(AE.fn (v3,())).1];cond (decide (y5.1<x1.2.length)) ((0≤y5.1∧y5.1<x1.2.length)∧CE.pre ([v1,v2],())∧AE.pre (v3,())∧cond (((AE.fn (v3,())).2).2 !=0) (cond (((AE.fn (v3,())).2).2 !=0) (Q ((0,([]:List (List O))),((AE.fn (v3,())).2).2)) (Q ((x0.1,([]:List (List O))),0))) (((!((AE.fn (v3,())).2).1)=true→(!((AE.fn (v3,())).2).1)=true∧BT.pre ((AE.fn (v3,())).1,()))∧((!((AE.fn (v3,())).2).1)=true→(!((AE.fn (v3,())).2).1)=true∧(!((AE.fn (v3,())).2).1)=true∧True)∧(((AE.fn (v3,())).2).1=false→(!((AE.fn (v3,())).2).1)=true)∧cond (((AE.fn (v3,())).2).1||Option.getD (y5.2.2 v4) false) (AB .i64 (y5.1+1)∧R5 ( y5.1+1,y5.2)) (BT.pre ((AE.fn (v3,())).1,())∧((y5.2.1.length+v6.length)*24≤140737488355328∧y5.2.1.length+v6.length≤9223372036854775807)∧cond (decide (400<(( List.length (y5.2.1++v6):Nat):Int))) (Q ((0,([]:List (List O))),3)) (AB .i64 (y5.1+1)∧R5 ( y5.1+1,( y5.2.1++v6,CA y5.2.2 v4 true)))))) (AB .i64 (y3.1+1)∧R3 ( y3.1+1,y5.2))) (0,y3.2)) (Q ((x0.1,y3.2.1),0))) (0,(([]:List (List O)),λ(a3:ByteArray)=>(none:Option Bool))))
def EU.wp(x0:Int×List (List O))(x1:Int×List (List O))(Q:(Int×List (List O))×Int→Prop):Prop:=let v0:=EF.fn (x0,(x1,()));let v1:=Dl.fn ([x0.2,x1.2],());cond (v0 !=0) (Q ((0,([]:List (List O))),v0)) (Dl.pre ([x0.2,x1.2],())∧Lp (σ:=Int×List (List O)×(ByteArray→Option Bool)) (λy3 R3=>let v2:=v1.getD y3.1.toNat ([]:List O);let v3:=BT.fn ((AE.fn (v2,())).1,());let v5:=[(AE.fn (v2,())).1];cond (decide (y3.1<v1.length)) ((0≤y3.1∧y3.1<v1.length)∧AE.pre (v2,())∧cond (((AE.fn (v2,())).2).2 !=0) (cond (((AE.fn (v2,())).2).2 !=0) (Q ((0,([]:List (List O))),((AE.fn (v2,())).2).2)) (Q ((x0.1,([]:List (List O))),0))) (((!((AE.fn (v2,())).2).1)=true→(!((AE.fn (v2,())).2).1)=true∧BT.pre ((AE.fn (v2,())).1,()))∧((!((AE.fn (v2,())).2).1)=true→(!((AE.fn (v2,())).2).1)=true∧(!((AE.fn (v2,())).2).1)=true∧True)∧(((AE.fn (v2,())).2).1=false→(!((AE.fn (v2,())).2).1)=true)∧cond (((AE.fn (v2,())).2).1||Option.getD (y3.2.2 v3) false) (AB .i64 (y3.1+1)∧R3 ( y3.1+1,y3.2)) (BT.pre ((AE.fn (v2,())).1,())∧((y3.2.1.length+v5.length)*24≤140737488355328∧y3.2.1.length+v5.length≤9223372036854775807)∧cond (decide (400<(( List.length (y3.2.1++v5):Nat):Int))) (Q ((0,([]:List (List O))),3)) (AB .i64 (y3.1+1)∧R3 ( y3.1+1,( y3.2.1++v5,CA y3.2.2 v3 true)))))) (Q ((x0.1,y3.2.1),0))) (0,(([]:List (List O)),λ(a3:ByteArray)=>(none:Option Bool))))
def Gi.wp(x0:O)(Q:Bool→Prop):Prop:=Q ! BW.fn (x0,())
def Fp.wp(x0:List O)(x1:Int)(Q:List O×Bool×Int→Prop):Prop:=((! decide (x1<0))=true→(! decide (x1<0))=true∧True)∧(decide (x1<0)=false→(! decide (x1<0))=true)∧cond (decide (x1<0)||decide (12<x1)) (Q (([]:List O),(false,6))) (cond (decide (384<(x0.length:Int))) (Q (([]:List O),(false,3))) (Ch.pre (x0,((λ(a3:O)=>True,λ(a3:O)=>Gi.fn (a3,())),()))∧cond (Ch.fn (x0,((λ(a3:O)=>True,λ(a3:O)=>Gi.fn (a3,())),()))) (Q (([]:List O),(false,1))) (cond (! EE.fn (x0,(x1,()))) (Q (([]:List O),(false,2))) (AE.pre (x0,())∧Q ((AE.fn (x0,())).1,(AE.fn (x0,())).2)))))
def Eo.wp(x0:List (List O))(x1:( List O→Prop)×( List O→Bool))(Q:Int→Prop):Prop:=Lp (σ:=Int) (λy3 R3=>let v0:=x0.getD y3.toNat ([]:List O);cond (decide (y3<x0.length)) ((0≤y3∧y3<x0.length)∧x1.1 v0∧cond (x1.2 v0) (Q y3) (AB .i64 (y3+1)∧R3 (y3+1))) (Q (-1))) 0
def FF.wp(x0:List (List O))(x1:( List O→Prop)×( List O→Bool))(Q:Bool→Prop):Prop:=Eo.pre (x0,((λ(a3:List O)=>x1.1 a3,λ(a3:List O)=>x1.2 a3),()))∧Q (decide (0≤Eo.fn (x0,((λ(a3:List O)=>x1.1 a3,λ(a3:List O)=>x1.2 a3),()))))
def Fa.wp(x0:List Int)(x1:List Int)(Q:Int×Int→Prop):Prop:=cond (x0.length !=(x1.length:Int)) (Q (0,2)) (cond (decide (12<(x0.length:Int))) (Q (0,3)) (Lp (σ:=Int×Int) (λy3 R3=>let v0:=x0.getD y3.1.toNat 0;let v1:=x1.getD y3.1.toNat 0;cond (decide (y3.1<x0.length)) ((0≤y3.1∧y3.1<x0.length)∧((! ! Bk.fn (v0,()))=true→(! ! Bk.fn (v0,()))=true∧(! ! Bk.fn (v0,()))=true∧0≤y3.1∧y3.1<x1.length)∧((! ! Bk.fn (v0,()))=true→(! ! Bk.fn (v0,()))=true∧True)∧((! ! Bk.fn (v0,()))=true→(! ! Bk.fn (v0,()))=true∧True)∧((! Bk.fn (v0,()))=false→(! ! Bk.fn (v0,()))=true)∧((!( ! Bk.fn (v0,())||decide (v1< -4294967296)))=true→(!( ! Bk.fn (v0,())||decide (v1< -4294967296)))=true∧(!( ! Bk.fn (v0,())||decide (v1< -4294967296)))=true∧0≤y3.1∧y3.1<x1.length)∧((!( ! Bk.fn (v0,())||decide (v1< -4294967296)))=true→(!( ! Bk.fn (v0,())||decide (v1< -4294967296)))=true∧True)∧((!( ! Bk.fn (v0,())||decide (v1< -4294967296)))=true→(!( ! Bk.fn (v0,())||decide (v1< -4294967296)))=true∧True)∧(( ! Bk.fn (v0,())||decide (v1< -4294967296))=false→(!( ! Bk.fn (v0,())||decide (v1< -4294967296)))=true)∧cond ( ! Bk.fn (v0,())||decide (v1< -4294967296)||decide (4294967296<v1)) (Q (0,6)) ((0≤y3.1∧y3.1<x0.length)∧(0≤y3.1∧y3.1<x1.length)∧AB .i64 (v0*v1)∧AB .i64 (y3.2+v0*v1)∧AB .i64 (y3.1+1)∧R3 ( y3.1+1,y3.2+v0*v1))) (Q (y3.2,0))) (0,0)))
def FZ.wp(x0:AT)(x1:List Int)(Q:Int×Int→Prop):Prop:=let v0:=Fa.fn (x0.1,(x1,()));cond (! DF.fn (x0,())) (Q (0,1)) (cond (v0.2 !=0) (Q (0,v0.2)) (AB .i64 (x0.2+v0.1)∧Q ( x0.2+v0.1,0)))
def Ft.wp(x0:O)(x1:List Int)(Q:Bool×Int→Prop):Prop:=let v0:=FZ.fn (x0.2.2,(x1,()));cond (! BW.fn (x0,())) (Q (false,1)) (cond (v0.2 !=0) (Q (false,v0.2)) (cond (x0.1==0) (Q (decide (0≤v0.1),0)) (cond (x0.1==1) (Q ( v0.1==0,0)) (x0.2.1≠0∧Q ( Int.tmod v0.1 x0.2.1==0,0)))))
def Gg.wp(x0:O)(x1:List Int)(Q:Bool→Prop):Prop:=Q !(Ft.fn (x0,(x1,()))).1
def Gf.wp(x0:List O)(x1:List Int)(Q:Bool→Prop):Prop:=Ch.pre (x0,((λ(a3:O)=>True,λ(a3:O)=>Gg.fn (a3,(x1,()))),()))∧Q ! Ch.fn (x0,((λ(a3:O)=>True,λ(a3:O)=>Gg.fn (a3,(x1,()))),()))
def D9.wp(x0:Int×List (List O))(x1:List Int)(Q:Bool×Int→Prop):Prop:=cond (! Bf.fn (x0,())) (Q (false,1)) (cond (x1.length !=x0.1) (Q (false,2)) (Lp (σ:=Int) (λy3 R3=>let v0:=x1.getD y3.toNat 0;cond (decide (y3<x1.length)) ((0≤y3∧y3<x1.length)∧((! decide (v0< -4294967296))=true→(! decide (v0< -4294967296))=true∧True)∧(decide (v0< -4294967296)=false→(! decide (v0< -4294967296))=true)∧cond (decide (v0< -4294967296)||decide (4294967296<v0)) (Q (false,6)) (AB .i64 (y3+1)∧R3 (y3+1))) (FF.pre (x0.2,((λ(a5:List O)=>True,λ(a5:List O)=>Gf.fn (a5,(x1,()))),()))∧Q ( FF.fn (x0.2,((λ(a5:List O)=>True,λ(a5:List O)=>Gf.fn (a5,(x1,()))),())),0))) 0))
theorem dF{P:O→Prop}(Hq:∀d c,P d→P c→P (Cn d c.2.2.2))(heq:∀c,c.1=0→P c→P (AV (1,0,c.2.2)).1){p:List O}(hb:A2 p)(h:∀d∈Ai p,P d):∀d∈(Aa p).1,P d:=by
 rw[If];split;·simp
 ·rcases Co ((E9 (B8 (Ai p))).bind FE)with ho|⟨out,ho⟩;·rw[ho];simp
  ·rw[ho];simp only;split;·simp
   ·obtain⟨o1,h1,h2⟩:=Option.bind_eq_some_iff.1 ho;have k3:K3 out:=by have :=uJ (bA (Zq (Qq hb)) h1) h2;exact λc hc=>(this.2 c hc).k3
    intro d hd;rw[Jr k3]at hd;exact cE (Uz heq (QU Hq h) h1) h2 d hd
theorem RA(p:List O):(Aa p).2.2=0∨(Aa p).2.2=3∧(Aa p).2.1=false:=by
 rw[If];split;·exact .inl rfl
 ·split;·exact .inl rfl
  ·split;·exact .inr ⟨rfl,rfl⟩
   ·exact .inl rfl
theorem Vk(p:List O):(Aa p).1.length≤96:=by
 rw[If];split;·simp
 ·split;·simp
  ·split;·simp
   ·rename_i h;simp only[ZBw,ZAp,ZAX]at h;simp only;omega
theorem Ld{n:Int}:Bw n=true↔-1048576≤n∧n≤1048576:=by simp[Bw]
theorem vW{k m K K':Int}{C:List Int}(h:AJ (k,m,C,K)=true)(hK:Bw K'=true):AJ (k,m,C,K')=true:=by
 have key:BI (C,K)=true→BI (C,K')=true:=by intro h;simp only[BI,zN]at h⊢;exact⟨h.1,h.2.1,hK⟩
 simp only[AJ]at*;split at h;·rename_i h0;rw[yS h0];simp only[zN]at h⊢;exact⟨h.1,key h.2⟩
 ·rename_i h0;rw[yP h0];split at h;·rename_i h1;rw[yS h1];simp only[zN]at h⊢;exact⟨h.1,key h.2⟩
  ·cases h
theorem rR{d c:O}(hd:AJ d=true)(hc:AJ c=true):AJ (Cn d c.2.2.2)=true:=by have h1:=(BI.b (AJ.lin hc)).2.2;have h2:=(BI.b (AJ.lin hd)).2.2;exact vW hd (Ld.2 (by omega))
theorem iW:AJ U=true:=by decide
theorem Zv{C:List Int}{K:Int}(h1:C.length≤12)(h2:∀n∈C,Bw n=true)(h3:Bw K=true):BI (C,K)=true:=by simp only[BI,zN,ZAP,ZAp];exact⟨h2,by omega,h3⟩
theorem vX{C:List Int}{K:Int}(h:BI (C,K)=true):AJ (1,0,C,K)=true:=by simp[AJ,h]
theorem kN{c:O}(h:BI c.2.2=true):AJ (AV (1,0,c.2.2)).1=true:=by
 simp only[AV,show(1:Int)≠0 by decide,ZA4,ZAY];unfold Bt;split;·unfold Cs;exact iW
 ·obtain⟨h1,h2,h3⟩:=BI.b h;have key:∀n g:Int,-1048576≤n∧n≤1048576→Bw (n.tdiv g)=true:=λn g hn=>by have :=QZ n g;rw[Ld];omega
  refine vX (Zv (by simpa using h1) (λn hn=>?_) (key _ _ h3));obtain⟨m,hm,rfl⟩:=List.mem_map.1 hn;exact key _ _ (h2 m hm)
theorem vR{p:List O}(h:(Ai p).any (λc=>!AJ c)=true):(Aa p).1=[]:=by
 rw[If];split;·rfl
 ·rcases Co ((E9 (B8 (Ai p))).bind FE)with ho|⟨out,ho⟩;·rw[ho]
  ·rw[ho];simp only[h,ZBd,ZA4]
theorem dJ{p:List O}(hb:A2 p):∀d∈(Aa p).1,AJ d=true:=by
 by_cases h:(Ai p).any (λc=>!AJ c)=true;·rw[vR h];simp
 ·refine dF (P:=λd=>AJ d=true) (λd c=>rR) (λc _ hc=>kN (AJ.lin hc)) hb λd hd=>?_;cases hc:AJ d with|true=>rfl|false=>exact absurd (List.any_eq_true.2 ⟨d,hd,by rw[hc];rfl⟩) h
theorem dI{p:List O}(hb:A2 p):Bs (Aa p).1:=⟨by have :=Vk p;omega,dJ hb⟩
theorem Bs.B{p:List O}(h:Bs p):A2 p:=⟨by have :=h.1;omega,λc hc=>AJ.condB (h.2 c hc)⟩
theorem Bs.name{p:List O}(h:Bs p):aJ p:=by
 refine⟨by have :=h.1;omega,λc hc=>?_⟩;have hv:=h.2 c hc;obtain⟨h1,h2,h3⟩:=BI.b (AJ.lin hv);refine⟨by omega,λn hn=>by have :=h2 n hn;omega,λn hn=>?_⟩;have hk:=AJ.kind hv;simp only[zO,ZBo,ZCY]at hn;rcases hn with rfl|rfl|rfl;·omega
 ·omega
 ·omega
theorem NH{α:Type}:∀(l:List (List α))(i:Nat),(l.take i).flatten.length≤l.flatten.length|[],i=>by simp|x::l,0=>by simp|x::l,i+1=>by have :=NH l i;simp only[ZCH,ZAm,yU];omega
theorem JL{α:Type}{l:List (List α)}{i:Nat}(h:i<l.length):(l.take (i+1)).flatten=(l.take i).flatten++l.getD i []:=by rw[BN [] h];simp
theorem CE.spec(l:List (List O))(hp:CE.pre (l,())):CE.wp l λr=>r=CE.fn (l,()):=by
 obtain⟨hl,ht⟩:=hp;simp only at hl ht;have hfn:CE.fn (l,())=l.flatten:=rfl;simp only[CE.wp,hfn];refine Lp.iter l.length (λi y=>y=((i:Int),(((l.take i).flatten.length:Nat):Int))) rfl ?_;rintro i y hle rfl R hR;by_cases e:i<l.length;·have h1:=NH l (i+1);rw[JL e,yU]at h1;simp only[yO (show(i:Int)<(l.length:Int)by omega),yQ,yR,yV (show¬(((l.take i).flatten.length:Nat):Int)+((l.getD i []).length:Int)<0 by omega),yN];refine⟨⟨by omega,by omega⟩,⟨by omega,by omega⟩,⟨by omega,by omega⟩,hR e _ ?_⟩;rw[JL e,yU];rfl
 ·have :i=l.length:=by omega
  subst this;clear hR hle;have NW:∀{body:Int×List O→(Int×List O→Prop)→Prop},(∀i R,i<l.length→AB .i64 ((i:Int)+1)→R ((i:Int)+1,(l.take i).flatten++l.getD i [])→body ((i:Int),(l.take i).flatten) R)→(∀R,body ((l.length:Int),l.flatten) R)→Lp body (0,[]):=by
   intro body Fy hb2;refine Lp.iter l.length (λi y=>y=((i:Int),(l.take i).flatten)) (by simp) ?_;rintro i y hle rfl R hR;by_cases e:i<l.length;·refine Fy i R e ⟨by omega,by omega⟩ ?_;rw[←JL e];exact hR e _ rfl
   ·have :i=l.length:=by omega
    subst this;rw[zA];exact hb2 R
  simp only[zA,yY,yZ,yN,yV (show¬((l.flatten.length:Nat):Int)<0 by omega),Int.sub_zero,Int.sub_self];refine⟨⟨by omega,by omega⟩,⟨by omega,by omega⟩,?_⟩;have Fy:∀i,i<l.length→(((l.take i).flatten.length+(l.getD i []).length)*48≤140737488355328∧(l.take i).flatten.length+(l.getD i []).length≤9223372036854775807)∧0≤(i:Int)∧(i:Int)<(l.length:Int):=λi hi=>by have h1:=NH l (i+1);rw[JL hi,yU]at h1;omega
  by_cases h0:0<l.flatten.length
  ·simp only[yO (show(0:Int)<(l.flatten.length:Int)by omega),yR];refine⟨⟨by omega,by omega⟩,⟨by omega,by omega,by omega⟩,⟨by omega,by omega⟩,NW (λi R hi hf hR=>?_) λR=>?_⟩;·simp only[yO (show(i:Int)<(l.length:Int)by omega),yQ,yR];exact⟨(Fy i hi).2,(Fy i hi).1,hf,hR⟩
   ·simp only[yY,yZ,yN]
  ·simp only[yV (show¬(0:Int)<(l.flatten.length:Int)by omega),yN];refine NW (λi R hi hf hR=>?_) λR=>?_;·simp only[yO (show(i:Int)<(l.length:Int)by omega),yQ,yR];exact⟨(Fy i hi).2,(Fy i hi).1,hf,hR⟩
   ·simp only[yY,yZ,yN]
theorem Dl.spec(l:List (List (List O)))(hp:Dl.pre (l,())):Dl.wp l λr=>r=Dl.fn (l,()):=by
 obtain⟨hl,ht⟩:=hp;simp only at hl ht;have hfn:Dl.fn (l,())=l.flatten:=rfl;simp only[Dl.wp,hfn];refine Lp.iter l.length (λi y=>y=((i:Int),(((l.take i).flatten.length:Nat):Int))) rfl ?_;rintro i y hle rfl R hR;by_cases e:i<l.length;·have h1:=NH l (i+1);rw[JL e,yU]at h1;simp only[yO (show(i:Int)<(l.length:Int)by omega),yQ,yR,yV (show¬(((l.take i).flatten.length:Nat):Int)+((l.getD i []).length:Int)<0 by omega),yN];refine⟨⟨by omega,by omega⟩,⟨by omega,by omega⟩,⟨by omega,by omega⟩,hR e _ ?_⟩;rw[JL e,yU];rfl
 ·have :i=l.length:=by omega
  subst this;clear hR hle;have NW:∀{body:Int×List (List O)→(Int×List (List O)→Prop)→Prop},(∀i R,i<l.length→AB .i64 ((i:Int)+1)→R ((i:Int)+1,(l.take i).flatten++l.getD i [])→body ((i:Int),(l.take i).flatten) R)→(∀R,body ((l.length:Int),l.flatten) R)→Lp body (0,[]):=by
   intro body Fy hb2;refine Lp.iter l.length (λi y=>y=((i:Int),(l.take i).flatten)) (by simp) ?_;rintro i y hle rfl R hR;by_cases e:i<l.length;·refine Fy i R e ⟨by omega,by omega⟩ ?_;rw[←JL e];exact hR e _ rfl
   ·have :i=l.length:=by omega
    subst this;rw[zA];exact hb2 R
  simp only[zA,yY,yZ,yN,yV (show¬((l.flatten.length:Nat):Int)<0 by omega),Int.sub_zero,Int.sub_self];refine⟨⟨by omega,by omega⟩,⟨by omega,by omega⟩,?_⟩;have Fy:∀i,i<l.length→(((l.take i).flatten.length+(l.getD i []).length)*24≤140737488355328∧(l.take i).flatten.length+(l.getD i []).length≤9223372036854775807)∧0≤(i:Int)∧(i:Int)<(l.length:Int):=λi hi=>by have h1:=NH l (i+1);rw[JL hi,yU]at h1;omega
  by_cases h0:0<l.flatten.length
  ·simp only[yO (show(0:Int)<(l.flatten.length:Int)by omega),yR];refine⟨⟨by omega,by omega⟩,⟨by omega,by omega,by omega⟩,⟨by omega,by omega⟩,NW (λi R hi hf hR=>?_) λR=>?_⟩;·simp only[yO (show(i:Int)<(l.length:Int)by omega),yQ,yR];exact⟨(Fy i hi).2,(Fy i hi).1,hf,hR⟩
   ·simp only[yY,yZ,yN]
  ·simp only[yV (show¬(0:Int)<(l.flatten.length:Int)by omega),yN];refine NW (λi R hi hf hR=>?_) λR=>?_;·simp only[yO (show(i:Int)<(l.length:Int)by omega),yQ,yR];exact⟨(Fy i hi).2,(Fy i hi).1,hf,hR⟩
   ·simp only[yY,yZ,yN]
end Go.Proofs.YtldikbpclaeajaaGreatDoor
