/- Part of a proof that a law of the program holds for every input: what the functions answer, in plain Lean. No conditions. -/
import Derived.Lib.ItoaLen
import Derived.Test.YtgpdnmfpgkkgcaaGreatDoorK10
namespace Go.Proofs.YtgpdnmfpgkkgcaaGreatDoor
open Go
set_option linter.defProp false
def ZGD:=@Int.toNat_natCast
def ZGH:=@Int.lt_irrefl
def ZGQ:=@decide_false
def ZGb:=@bne_self_eq_false
def ZGc:=@List.foldlM_cons
def ZGl:=@List.mem_of_mem_take
def ZGs:=@Option.bind_eq_some_iff
def ZGt:=@List.mem_map
def ZGv:=@Option.bind_eq_bind
def ZGz:=@Bool.not_false
def ZG2:=@List.drop_eq_getElem_cons
def ZHC:=@List.foldl_append
def ZHE:=@beq_self_eq_true
def ZHH:=@Int.emod_lt_of_pos
def ZHN:=@List.drop_length
def ZHP:=@List.map_map
def ZHQ:=@Int.emod_nonneg
def ZHR:=@List.ext_getElem
def ZHT:=@Int.emod_add_mul_ediv
def ZHc:=@Option.bind_some
def ZHi:=@List.all_eq_true
def ZHn:=@Bool.or_eq_true
def ZHo:=@Bool.or_true
def ZHp:=@Bool.true_or
def ZHq:=@List.foldlM_append
def ZHs:=@Bool.not_eq_true
def ZHx:=@List.mem_filter
def ZH2:=@Bool.true_and
def ZH5:=@List.mem_range
def ZIF:=@beq_iff_eq
def ZIO:=@List.set_append_right
def ZIT:=@List.range_succ
def ZIU:=@Prod.ext
def ZIW:=@Bool.or_false
def ZIX:=@Int.mul_le_mul_of_nonneg_left
def ZIc:=@List.not_mem_nil
def ZIr:=@Nat.sub_self
def ZIz:=@Bool.true_eq_false
def ZI2:=@Option.isSome_some
def ZI3:=@Int.le_ediv_iff_mul_le
def ZI4:=@Int.mul_add
def ZI5:=@List.take_append_of_le_length
def ZI6:=@List.all_eq_false
def ZI8:=@not_true_eq_false
def ZJA:=@Bool.and_false
def ZJB:=@Bool.false_and
def ZJE:=@List.singleton_append
def ZJJ:=@Int.tdiv_eq_ediv_of_nonneg
def ZJK:=@List.map_id
def ZJN:=@List.mem_or_eq_of_mem_set
def ZJO:=@Int.natAbs_natCast
def ZJP:=@Int.tmod_lt_of_pos
def ZJU:=@Nat.gcd_zero_left
def ZJW:=@List.drop_eq_nil_of_le
def ZJY:=@List.mem_flatMap
def ZJZ:=@or_false
def ZJe:=@Decidable.em
def ZJf:=@Int.mul_le_mul_of_nonpos_right
def ZJh:=@Int.tmod_nonneg
def ZJy:=@ne_eq
def ZJz:=@List.set_cons_zero
def ZJ3:=@List.any_cons
def ZJ5:=@Int.emod_eq_of_lt
def ZJ9:=@Int.le_of_not_gt
def ZKC:=@List.flatMap_map
def ZKD:=@List.flatten_nil
def ZKM:=@List.pairwise_singleton
def ZKN:=@Nat.gcd_pos_of_pos_left
def ZKO:=@Int.natAbs_tdiv
def ZKP:=@Nat.div_le_self
def ZKS:=@Int.neg_mul
def ZKh:=@List.findIdx?_append
def ZKu:=@List.replicate_zero
def ZK4:=@Nat.gcd_comm
def ZK5:=@Nat.gcd_zero_right
set_option linter.unusedSimpArgs false
set_option linter.unusedVariables false
theorem Lp.iter{σ:Type}{body:σ→(σ→Prop)→Prop}(n:Nat)(I:Nat→σ→Prop){x:σ}(hx:I 0 x)(h:∀i y,i≤n→I i y→∀R:σ→Prop,(i<n→∀y',I (i+1) y'→R y')→body y R):Lp body x:=by
 intro R hR;have key:∀k i y,i+k=n→I i y→R y:=by intro k;induction k with|zero=>exact λi y e hi=>hR _ (h i y (by omega) hi R λAb=>by omega)|succ k ih=>exact λi y e hi=>hR _ (h i y (by omega) hi R λ_ y' hy'=>ih (i+1) y' (by omega) hy')
 exact key n 0 x (by omega) hx
theorem A6{α:Type}{l:List α}{d:α}{i:Nat}(h:i<l.length):l.getD i d=l[i]:=by rw[ZGG,ZGU h];rfl
theorem wH{α:Type}{l:List α}{d:α}{p:α→Bool}{i:Nat}(hi:i<l.length)(h:p (l.getD i d)=false):l.all p=false:=by rw[ZGG,ZGU hi]at h;rw[ZI6];exact⟨l[i],ZKE hi,by simpa using h⟩
theorem wI{α:Type}{l:List α}{d:α}{p:α→Bool}(h:∀j,j<l.length→p (l.getD j d)=true):l.all p=true:=by rw[ZHi];intro x hx;obtain⟨i,hi,rfl⟩:=List.mem_iff_getElem.1 hx;have :=h i hi;rwa[ZGG,ZGU hi]at this
theorem Lp.all{α:Type}{body:Int→(Int→Prop)→Prop}(l:List α)(d:α)(p:α→Bool)(hl:l.length≤9223372036854775807)(h:∀(i:Nat)(R:Int→Prop),i<l.length→(i:Int)<(l.length:Int)→AA .i64 ((i:Int)+1)→(p (l.getD i d)=true→R ((i:Int)+1))→(p (l.getD i d)=false→l.all p=false)→body (i:Int) R)(h2:∀R:Int→Prop,l.all p=true→body (l.length:Int) R):Lp body 0:=by
 refine Lp.iter l.length (λi y=>y=(i:Int)∧∀j,j<i→p (l.getD j d)=true) ⟨rfl,λj hj=>absurd hj (by omega)⟩ ?_;rintro i y hle⟨rfl,hi⟩R hR;by_cases e:i<l.length
 ·refine h i R e (by omega) ⟨by omega,by omega⟩ (λhp=>hR e _ ⟨by omega,λj hj=>?_⟩) λhp=>wH e hp;by_cases ej:j=i;·subst ej;exact hp
  ·exact hi j (by omega)
 ·have :i=l.length:=by omega
  subst this;exact h2 R (wI hi)
theorem Lp.foldl{α τ:Type}{body:Int×τ→(Int×τ→Prop)→Prop}(l:List α)(d:α)(f:τ→α→τ)(a:τ)(hl:l.length≤9223372036854775807)(h:∀(i:Nat)(t:τ)(R:Int×τ→Prop),i<l.length→(i:Int)<(l.length:Int)→AA .i64 ((i:Int)+1)→t=(l.take i).foldl f a→R ((i:Int)+1,f t (l.getD i d))→body ((i:Int),t) R)(h2:∀R:Int×τ→Prop,body ((l.length:Int),l.foldl f a) R):Lp body (0,a):=by
 refine Lp.iter l.length (λi y=>y=((i:Int),(l.take i).foldl f a)) rfl ?_;rintro i y hle rfl R hR;by_cases e:i<l.length
 ·refine h i _ R e (by omega) ⟨by omega,by omega⟩ rfl ?_;refine hR e _ ?_;have :l.take (i+1)=l.take i++[l.getD i d]:=by rw[ZGG,ZGU e];simp
  rw[this,ZHC];rfl
 ·have :i=l.length:=by omega
  subst this;rw[ZGN];exact h2 R
theorem AV{α:Type}{l:List α}{d:α}{i:Nat}(h:i<l.length):l.getD i d∈l:=by rw[A6 h];exact ZKE h
theorem Lp.foldO{α τ:Type}{body:Int×τ→(Int×τ→Prop)→Prop}(l:List α)(d:α)(f:τ→α→Option τ)(a:τ)(hl:l.length≤9223372036854775807)(h:∀(i:Nat)(t:τ)(R:Int×τ→Prop),i<l.length→(i:Int)<(l.length:Int)→AA .i64 ((i:Int)+1)→(l.take i).foldlM f a=some t→(∀t',f t (l.getD i d)=some t'→R ((i:Int)+1,t'))→(f t (l.getD i d)=none→l.foldlM f a=none)→body ((i:Int),t) R)(h2:∀(t:τ)(R:Int×τ→Prop),l.foldlM f a=some t→body ((l.length:Int),t) R):Lp body (0,a):=by
 refine Lp.iter l.length (λi y=>∃t,y=((i:Int),t)∧(l.take i).foldlM f a=some t) ⟨a,rfl,rfl⟩ ?_;rintro i y hle⟨t,rfl,ht⟩R hR;by_cases e:i<l.length
 ·have hs:l.take (i+1)=l.take i++[l.getD i d]:=by rw[ZGG,ZGU e];simp
  refine h i t R e (by omega) ⟨by omega,by omega⟩ ht (λt' ht'=>hR e _ ⟨t',rfl,?_⟩) λhn=>?_;·rw[hs,ZHq,ht];show(f t (l.getD i d)).bind _=_;rw[ht'];rfl
  ·have h3:l=l.take i++l.getD i d::l.drop (i+1):=by rw[ZGG,ZGU e];simp
   rw[h3,ZHq,ht];simp only[ZGv,ZHc,ZGc];have e4:(l.take i++l.getD i d::l.drop (i+1)).getD i d=l.getD i d:=by rw[←h3]
   rw[hn];rfl
 ·have :i=l.length:=by omega
  subst this;rw[ZGN]at ht;exact h2 t R ht
theorem Lp.fill{α β:Type}{body:Int×List β→(Int×List β→Prop)→Prop}(l:List α)(d:α)(z:β)(f:α→β)(hl:l.length≤9223372036854775807)(h:∀(i:Nat)(out:List β)(R:Int×List β→Prop),i<l.length→(i:Int)<(l.length:Int)→AA .i64 ((i:Int)+1)→out.length=l.length→R ((i:Int)+1,out.set i (f (l.getD i d)))→body ((i:Int),out) R)(h2:∀R:Int×List β→Prop,body ((l.length:Int),l.map f) R):Lp body (0,List.replicate l.length z):=by
 refine Lp.iter l.length (λi y=>y=((i:Int),(l.take i).map f++List.replicate (l.length-i) z)) (by simp) ?_;rintro i y hle rfl R hR;by_cases e:i<l.length
 ·refine h i _ R e (by omega) ⟨by omega,by omega⟩ (by simp;omega) (hR e _ ?_);congr 1;have h1:l.length-i=l.length-(i+1)+1:=by omega
  rw[h1,ZIv,ZIO _ _ (by simp;omega)];have h3:i-((l.take i).map f).length=0:=by simp;omega
  rw[h3,ZJz,A6 e];have h4:l.take (i+1)=l.take i++[l[i]]:=by simp
  rw[h4,ZGp,ZGy];rfl
 ·have :i=l.length:=by omega
  subst this;simp only[ZGN,ZIr,ZKu,ZGZ];exact h2 R
abbrev AN:=List Int×Int
abbrev O:=Int×Int×List Int×Int
abbrev AM:=Int×List (List O)
abbrev U:O:=(0,0,[],0)
def DB(n:Int):Bool:=decide (-1048576≤n)&&decide (n≤1048576)
def Bo(l:AN):Bool:=l.1.all DB&&(decide ((l.1.length:Int)≤12)&&DB l.2)
def AG(c:O):Bool:=if c.1=0∨c.1=1 then c.2.1==0&&Bo c.2.2 else if c.1=2 then decide (1≤c.2.1)&&decide (c.2.1≤512)&&Bo c.2.2 else false
def GS(p:List O)(n:Int):Bool:=p.all λc=>AG c&&(c.2.2.1.length:Int)==n
def AY(s:AM):Bool:=decide (0≤s.1)&&decide (s.1≤12)&&decide ((s.2.length:Int)≤400)&&s.2.all λp=>decide ((p.length:Int)≤96)&&GS p s.1
abbrev G1.fn(x:Int×Unit):Bool:=DB x.1
abbrev F2.fn(x:AN×Unit):Bool:=Bo x.1
abbrev B8.fn(x:O×Unit):Bool:=AG x.1
abbrev Gb.fn(x:List O×Int×Unit):Bool:=GS x.1 x.2.1
abbrev Cu.fn(x:AM×Unit):Bool:=AY x.1
abbrev G2.fn(x:Int×Unit):Bool:=DB x.1
abbrev HZ.fn(x:AN×Unit):Bool:=Bo x.1
abbrev EY.fn(x:O×Unit):Bool:=AG x.1
abbrev CO.fn(x:AM×Unit):Bool:=AY x.1
def JJ(a b:AM):Int:=if AY a&&AY b then if a.1=b.1 then 0 else 2 else 1
abbrev Hj.fn(x:AM×AM×Unit):Int:=JJ x.1 x.2.1
abbrev Hb.fn(x:AM×AM×Unit):Int:=JJ x.1 x.2.1
abbrev HY.fn(x:AN×AN×Unit):Bool:=decide (x.1=x.2.1)
abbrev GX.fn(x:O×O×Unit):Bool:=decide (x.1=x.2.1)
abbrev GY.fn(x:List O×List O×Unit):Bool:=decide (x.1=x.2.1)
abbrev Et.fn(x:AM×AM×Unit):Bool:=decide (x.1=x.2.1)
def AW(l:List Int):Nat:=l.foldl (λg n=>Nat.gcd g n.natAbs) 0
abbrev FG.fn(x:Int×Unit):Int:=if x.1<0 then IntKind.wrap .u64 (-IntKind.wrap .u64 x.1)else IntKind.wrap .u64 x.1
abbrev ED.fn(x:Int×Int×Unit):Int:=if x.2.1≤0 then x.1 else if x.1<0 then x.2.1 else(Nat.gcd x.1.toNat x.2.1.toNat:Nat)
abbrev EX.fn(x:Int×Int×Unit):Int:=ED.fn (x.1,FG.fn (x.2.1,()),())
abbrev FF.fn(x:List Int×Int×((Int×Int→Prop)×(Int×Int→Int))×Unit):Int:=x.1.foldl (λg n=>x.2.2.1.2 (g,n)) x.2.1
abbrev FF.pre(x:List Int×Int×((Int×Int→Prop)×(Int×Int→Int))×Unit):Prop:=∀g,∀n∈x.1,x.2.2.1.1 (g,n)
def D7(l:List Int):Prop:=∀n∈l,-9223372036854775807≤n∧n≤9223372036854775807
abbrev Dk.fn(x:List Int×Unit):Int×Int:=((AW x.1:Nat),0)
abbrev Dk.pre(x:List Int×Unit):Prop:=D7 x.1
abbrev Fi.fn(x:List Int×Unit):Int×Int:=Dk.fn x
abbrev Fi.pre(x:List Int×Unit):Prop:=D7 x.1
abbrev D9.fn(x:Int×Int×Unit):Int×Int:=if x.2.1<1 then(0,1)else(x.1/x.2.1,0)
abbrev D9.pre(x:Int×Int×Unit):Prop:=-9223372036854775807≤x.1∧x.1≤9223372036854775807
abbrev Db.fn(x:Int×Int×Unit):Int×Int:=if x.2.1<1 then(0,1)else(x.1%x.2.1,0)
abbrev Db.pre(x:Int×Int×Unit):Prop:=x.2.1≤9223372036854775807
abbrev Dl.fn(x:Int×Int×Unit):Int×Int:=D9.fn x
abbrev Dl.pre(x:Int×Int×Unit):Prop:=D9.pre x
abbrev C9.fn(x:Int×Int×Unit):Int×Int:=Db.fn x
abbrev C9.pre(x:Int×Int×Unit):Prop:=Db.pre x
abbrev H1.fn(x:Int×Unit):Int:=FG.fn x
set_option maxRecDepth 4000
def G1.wp(x0:Int)(Q:Bool→Prop):Prop:=(decide (-1048576≤x0)=true→decide (-1048576≤x0)=true∧True)∧(decide (-1048576≤x0)=true→decide (-1048576≤x0)=true)∧Q (decide (-1048576≤x0)&&decide (x0≤1048576))
def F2.wp(x0:AN)(Q:Bool→Prop):Prop:=Lp (σ:=Int) (λy2 R2=>cond (decide (y2<x0.1.length)) ((0≤y2∧y2<x0.1.length)∧cond (! G1.fn ( x0.1.getD y2.toNat 0,())) (Q false) (AA .i64 (y2+1)∧R2 (y2+1))) ((decide ((x0.1.length:Int)≤12)=true→decide ((x0.1.length:Int)≤12)=true∧True)∧(decide ((x0.1.length:Int)≤12)=true→decide ((x0.1.length:Int)≤12)=true∧True)∧(decide ((x0.1.length:Int)≤12)=true→decide ((x0.1.length:Int)≤12)=true)∧Q (decide ((x0.1.length:Int)≤12)&&G1.fn (x0.2,())))) 0
def B8.wp(x0:O)(Q:Bool→Prop):Prop:=let v0:=F2.fn (x0.2.2,());cond (x0.1==0) (cond (x0.1==0) (((x0.2.1==0)=true→(x0.2.1==0)=true∧True)∧((x0.2.1==0)=true→(x0.2.1==0)=true∧True)∧((x0.2.1==0)=true→(x0.2.1==0)=true)∧Q ( x0.2.1==0&&v0)) (cond (x0.1==2) ((decide (1≤x0.2.1)=true→decide (1≤x0.2.1)=true∧True)∧(decide (1≤x0.2.1)=true→decide (1≤x0.2.1)=true∧True)∧(decide (1≤x0.2.1)=true→decide (1≤x0.2.1)=true)∧((decide (1≤x0.2.1)&&decide (x0.2.1≤512))=true→(decide (1≤x0.2.1)&&decide (x0.2.1≤512))=true∧True)∧((decide (1≤x0.2.1)&&decide (x0.2.1≤512))=true→(decide (1≤x0.2.1)&&decide (x0.2.1≤512))=true∧True)∧((decide (1≤x0.2.1)&&decide (x0.2.1≤512))=true→(decide (1≤x0.2.1)&&decide (x0.2.1≤512))=true)∧Q ( decide (1≤x0.2.1)&&decide (x0.2.1≤512)&&v0)) (Q false))) (cond (x0.1==1) (((x0.2.1==0)=true→(x0.2.1==0)=true∧True)∧((x0.2.1==0)=true→(x0.2.1==0)=true∧True)∧((x0.2.1==0)=true→(x0.2.1==0)=true)∧Q ( x0.2.1==0&&v0)) (cond (x0.1==2) ((decide (1≤x0.2.1)=true→decide (1≤x0.2.1)=true∧True)∧(decide (1≤x0.2.1)=true→decide (1≤x0.2.1)=true∧True)∧(decide (1≤x0.2.1)=true→decide (1≤x0.2.1)=true)∧((decide (1≤x0.2.1)&&decide (x0.2.1≤512))=true→(decide (1≤x0.2.1)&&decide (x0.2.1≤512))=true∧True)∧((decide (1≤x0.2.1)&&decide (x0.2.1≤512))=true→(decide (1≤x0.2.1)&&decide (x0.2.1≤512))=true∧True)∧((decide (1≤x0.2.1)&&decide (x0.2.1≤512))=true→(decide (1≤x0.2.1)&&decide (x0.2.1≤512))=true)∧Q ( decide (1≤x0.2.1)&&decide (x0.2.1≤512)&&v0)) (Q false)))
def Gb.wp(x0:List O)(x1:Int)(Q:Bool→Prop):Prop:=Lp (σ:=Int) (λy3 R3=>let v0:=x0.getD y3.toNat U;cond (decide (y3<x0.length)) ((0≤y3∧y3<x0.length)∧((! ! B8.fn (v0,()))=true→(! ! B8.fn (v0,()))=true∧True)∧((! ! B8.fn (v0,()))=true→(! ! B8.fn (v0,()))=true∧True)∧((! ! B8.fn (v0,()))=true→(! ! B8.fn (v0,()))=true∧True)∧((! ! B8.fn (v0,()))=true→(! ! B8.fn (v0,()))=true∧(! ! B8.fn (v0,()))=true∧True)∧((! B8.fn (v0,()))=false→(! ! B8.fn (v0,()))=true)∧cond ( ! B8.fn (v0,())||v0.2.2.1.length !=x1) (Q false) (AA .i64 (y3+1)∧R3 (y3+1))) (Q true)) 0
def Cu.wp(x0:Int×List (List O))(Q:Bool→Prop):Prop:=((! decide (x0.1<0))=true→(! decide (x0.1<0))=true∧True)∧((! decide (x0.1<0))=true→(! decide (x0.1<0))=true∧True)∧(decide (x0.1<0)=false→(! decide (x0.1<0))=true)∧((!(decide (x0.1<0)||decide (12<x0.1)))=true→(!(decide (x0.1<0)||decide (12<x0.1)))=true∧True)∧((!(decide (x0.1<0)||decide (12<x0.1)))=true→(!(decide (x0.1<0)||decide (12<x0.1)))=true∧True)∧((!(decide (x0.1<0)||decide (12<x0.1)))=true→(!(decide (x0.1<0)||decide (12<x0.1)))=true∧True)∧((decide (x0.1<0)||decide (12<x0.1))=false→(!(decide (x0.1<0)||decide (12<x0.1)))=true)∧cond ( decide (x0.1<0)||decide (12<x0.1)||decide (400<(x0.2.length:Int))) (Q false) (Lp (σ:=Int) (λy2 R2=>let v0:=x0.2.getD y2.toNat ([]:List O);cond (decide (y2<x0.2.length)) ((0≤y2∧y2<x0.2.length)∧((! decide (96<(v0.length:Int)))=true→(! decide (96<(v0.length:Int)))=true∧True)∧((! decide (96<(v0.length:Int)))=true→(! decide (96<(v0.length:Int)))=true∧(! decide (96<(v0.length:Int)))=true∧True)∧((! decide (96<(v0.length:Int)))=true→(! decide (96<(v0.length:Int)))=true∧True)∧(decide (96<(v0.length:Int))=false→(! decide (96<(v0.length:Int)))=true)∧cond (decide (96<(v0.length:Int))||! Gb.fn (v0,(x0.1,()))) (Q false) (AA .i64 (y2+1)∧R2 (y2+1))) (Q true)) 0)
def Hj.wp(x0:Int×List (List O))(x1:Int×List (List O))(Q:Int→Prop):Prop:=((! ! Cu.fn (x0,()))=true→(! ! Cu.fn (x0,()))=true∧True)∧((! ! Cu.fn (x0,()))=true→(! ! Cu.fn (x0,()))=true∧True)∧((! Cu.fn (x0,()))=false→(! ! Cu.fn (x0,()))=true)∧cond ( ! Cu.fn (x0,())||! Cu.fn (x1,())) (Q 1) (cond (x0.1 !=x1.1) (Q 2) (Q 0))
def G2.wp(x0:Int)(Q:Bool→Prop):Prop:=(decide (-1048576≤x0)=true→decide (-1048576≤x0)=true∧True)∧(decide (-1048576≤x0)=true→decide (-1048576≤x0)=true)∧Q (decide (-1048576≤x0)&&decide (x0≤1048576))
def HZ.wp(x0:AN)(Q:Bool→Prop):Prop:=Lp (σ:=Int) (λy2 R2=>cond (decide (y2<x0.1.length)) ((0≤y2∧y2<x0.1.length)∧cond (! G2.fn ( x0.1.getD y2.toNat 0,())) (Q false) (AA .i64 (y2+1)∧R2 (y2+1))) ((decide ((x0.1.length:Int)≤12)=true→decide ((x0.1.length:Int)≤12)=true∧True)∧(decide ((x0.1.length:Int)≤12)=true→decide ((x0.1.length:Int)≤12)=true∧True)∧(decide ((x0.1.length:Int)≤12)=true→decide ((x0.1.length:Int)≤12)=true)∧Q (decide ((x0.1.length:Int)≤12)&&G2.fn (x0.2,())))) 0
def EY.wp(x0:O)(Q:Bool→Prop):Prop:=cond (! HZ.fn (x0.2.2,())) (Q false) (cond (x0.1==2) ((decide (1≤x0.2.1)=true→decide (1≤x0.2.1)=true∧True)∧(decide (1≤x0.2.1)=true→decide (1≤x0.2.1)=true∧True)∧(decide (1≤x0.2.1)=true→decide (1≤x0.2.1)=true)∧Q (decide (1≤x0.2.1)&&decide (x0.2.1≤512))) (( ! x0.1==0=true→! x0.1==0=true∧True)∧( ! x0.1==0=true→! x0.1==0=true∧True)∧((x0.1==0)=false→(! x0.1==0)=true)∧(( x0.1==0||x0.1==1)=true→( x0.1==0||x0.1==1)=true∧True)∧(( x0.1==0||x0.1==1)=true→( x0.1==0||x0.1==1)=true∧True)∧(( x0.1==0||x0.1==1)=true→( x0.1==0||x0.1==1)=true)∧Q (( x0.1==0||x0.1==1)&&x0.2.1==0)))
def CO.wp(x0:Int×List (List O))(Q:Bool→Prop):Prop:=((! decide (x0.1<0))=true→(! decide (x0.1<0))=true∧True)∧((! decide (x0.1<0))=true→(! decide (x0.1<0))=true∧True)∧(decide (x0.1<0)=false→(! decide (x0.1<0))=true)∧((!(decide (x0.1<0)||decide (12<x0.1)))=true→(!(decide (x0.1<0)||decide (12<x0.1)))=true∧True)∧((!(decide (x0.1<0)||decide (12<x0.1)))=true→(!(decide (x0.1<0)||decide (12<x0.1)))=true∧True)∧((!(decide (x0.1<0)||decide (12<x0.1)))=true→(!(decide (x0.1<0)||decide (12<x0.1)))=true∧True)∧((decide (x0.1<0)||decide (12<x0.1))=false→(!(decide (x0.1<0)||decide (12<x0.1)))=true)∧cond ( decide (x0.1<0)||decide (12<x0.1)||decide (400<(x0.2.length:Int))) (Q false) (Lp (σ:=Int) (λy2 R2=>let v0:=x0.2.getD y2.toNat ([]:List O);cond (decide (y2<x0.2.length)) ((0≤y2∧y2<x0.2.length)∧cond (decide (96<(v0.length:Int))) (Q false) (Lp (σ:=Int) (λy4 R4=>let v1:=v0.getD y4.toNat U;let v2:=EY.fn (v1,());cond (decide (y4<v0.length)) ((0≤y4∧y4<v0.length)∧((! !v2)=true→(! !v2)=true∧True)∧((! !v2)=true→(! !v2)=true∧True)∧((! !v2)=true→(! !v2)=true∧True)∧((! !v2)=true→(! !v2)=true∧True)∧((! !v2)=true→(! !v2)=true∧(! !v2)=true∧True)∧((!v2)=false→(! !v2)=true)∧cond ( !v2||v1.2.2.1.length !=x0.1) (Q false) (AA .i64 (y4+1)∧R4 (y4+1))) (AA .i64 (y2+1)∧R2 (y2+1))) 0)) (Q true)) 0)
def Hb.wp(x0:Int×List (List O))(x1:Int×List (List O))(Q:Int→Prop):Prop:=((! ! CO.fn (x0,()))=true→(! ! CO.fn (x0,()))=true∧True)∧((! ! CO.fn (x0,()))=true→(! ! CO.fn (x0,()))=true∧True)∧((! CO.fn (x0,()))=false→(! ! CO.fn (x0,()))=true)∧cond ( ! CO.fn (x0,())||! CO.fn (x1,())) (Q 1) (cond (x0.1 !=x1.1) (Q 2) (Q 0))
def HY.wp(x0:AN)(x1:AN)(Q:Bool→Prop):Prop:=((! x0.1.length !=(x1.1.length:Int))=true→(! x0.1.length !=(x1.1.length:Int))=true∧True)∧( ! x0.1.length !=(x1.1.length:Int)=true→! x0.1.length !=(x1.1.length:Int)=true∧True)∧( ! x0.1.length !=(x1.1.length:Int)=true→! x0.1.length !=(x1.1.length:Int)=true∧! x0.1.length !=(x1.1.length:Int)=true∧True)∧((x0.1.length !=(x1.1.length:Int))=false→(! x0.1.length !=(x1.1.length:Int))=true)∧cond ( x0.1.length !=(x1.1.length:Int)||x0.2 !=x1.2) (Q false) (Lp (σ:=Int) (λy3 R3=>cond (decide (y3<x0.1.length)) ((0≤y3∧y3<x0.1.length)∧(0≤y3∧y3<x1.1.length)∧cond ( x0.1.getD y3.toNat 0 !=x1.1.getD y3.toNat 0) (Q false) (AA .i64 (y3+1)∧R3 (y3+1))) (Q true)) 0)
def GX.wp(x0:O)(x1:O)(Q:Bool→Prop):Prop:=((x0.1==x1.1)=true→(x0.1==x1.1)=true∧True)∧((x0.1==x1.1)=true→(x0.1==x1.1)=true∧True)∧((x0.1==x1.1)=true→(x0.1==x1.1)=true∧(x0.1==x1.1)=true∧True)∧((x0.1==x1.1)=true→(x0.1==x1.1)=true)∧(( x0.1==x1.1&&x0.2.1==x1.2.1)=true→( x0.1==x1.1&&x0.2.1==x1.2.1)=true∧True)∧(( x0.1==x1.1&&x0.2.1==x1.2.1)=true→( x0.1==x1.1&&x0.2.1==x1.2.1)=true∧True)∧(( x0.1==x1.1&&x0.2.1==x1.2.1)=true→( x0.1==x1.1&&x0.2.1==x1.2.1)=true∧( x0.1==x1.1&&x0.2.1==x1.2.1)=true∧True)∧(( x0.1==x1.1&&x0.2.1==x1.2.1)=true→( x0.1==x1.1&&x0.2.1==x1.2.1)=true)∧Q ( x0.1==x1.1&&x0.2.1==x1.2.1&&HY.fn (x0.2.2,(x1.2.2,())))
def GY.wp(x0:List O)(x1:List O)(Q:Bool→Prop):Prop:=cond (x0.length !=(x1.length:Int)) (Q false) (Lp (σ:=Int) (λy3 R3=>cond (decide (y3<x0.length)) ((0≤y3∧y3<x0.length)∧(0≤y3∧y3<x1.length)∧cond (! GX.fn ( x0.getD y3.toNat U,( x1.getD y3.toNat U,()))) (Q false) (AA .i64 (y3+1)∧R3 (y3+1))) (Q true)) 0)
def Et.wp(x0:Int×List (List O))(x1:Int×List (List O))(Q:Bool→Prop):Prop:=( ! x0.1 !=x1.1=true→! x0.1 !=x1.1=true∧True)∧((! x0.1 !=x1.1)=true→(! x0.1 !=x1.1)=true∧True)∧((! x0.1 !=x1.1)=true→! x0.1 !=x1.1=true∧True)∧((! x0.1 !=x1.1)=true→! x0.1 !=x1.1=true∧True)∧((! x0.1 !=x1.1)=true→! x0.1 !=x1.1=true∧! x0.1 !=x1.1=true∧True)∧((x0.1 !=x1.1)=false→! x0.1 !=x1.1=true)∧cond ( x0.1 !=x1.1||x0.2.length !=(x1.2.length:Int)) (Q false) (Lp (σ:=Int) (λy3 R3=>cond (decide (y3<x0.2.length)) ((0≤y3∧y3<x0.2.length)∧(0≤y3∧y3<x1.2.length)∧cond (! GY.fn ( x0.2.getD y3.toNat ([]:List O),( x1.2.getD y3.toNat ([]:List O),()))) (Q false) (AA .i64 (y3+1)∧R3 (y3+1))) (Q true)) 0)
def FG.wp(x0:Int)(Q:Int→Prop):Prop:=let v0:=IntKind.wrap .u64 x0;cond (decide (x0<0)) (Q (IntKind.wrap .u64 (-v0))) (Q v0)
def ED.wp(x0:Int)(x1:Int)(Q:Int→Prop):Prop:=Lp (σ:=Int×Int) (λy3 R3=>cond (decide (0<y3.1)) (y3.1≠0∧R3 (Int.tmod y3.2 y3.1,y3.1)) (Q y3.2)) (x1,x0)
def EX.wp(x0:Int)(x1:Int)(Q:Int→Prop):Prop:=Q (ED.fn (x0,(FG.fn (x1,()),())))
def FF.wp(x0:List Int)(x1:Int)(x2:(Int×Int→Prop)×(Int×Int→Int))(Q:Int→Prop):Prop:=Lp (σ:=Int×Int) (λy4 R4=>let v0:=x0.getD y4.1.toNat 0;cond (decide (y4.1<x0.length)) ((0≤y4.1∧y4.1<x0.length)∧x2.1 (y4.2,v0)∧AA .i64 (y4.1+1)∧R4 ( y4.1+1,x2.2 (y4.2,v0))) (Q y4.2)) (0,x1)
def Dk.wp(x0:List Int)(Q:Int×Int→Prop):Prop:=let v0:=FF.fn (x0,(0,((λ(a2:Int×Int)=>True,λ(a2:Int×Int)=>EX.fn (a2.1,(a2.2,()))),())));FF.pre (x0,(0,((λ(a2:Int×Int)=>True,λ(a2:Int×Int)=>EX.fn (a2.1,(a2.2,()))),())))∧cond (decide (9223372036854775807<v0)) (Q (0,3)) (AA .i64 v0∧Q (v0,0))
def D9.wp(x0:Int)(x1:Int)(Q:Int×Int→Prop):Prop:=cond (decide (x1<1)) (Q (0,1)) ((x1≠0∧AA .i64 (Int.tdiv x0 x1))∧x1≠0∧cond (decide (Int.tmod x0 x1<0)) (AA .i64 (Int.tdiv x0 x1-1)∧Q ( Int.tdiv x0 x1-1,0)) (Q (Int.tdiv x0 x1,0)))
def Db.wp(x0:Int)(x1:Int)(Q:Int×Int→Prop):Prop:=cond (decide (x1<1)) (Q (0,1)) (x1≠0∧cond (decide (Int.tmod x0 x1<0)) (AA .i64 (Int.tmod x0 x1+x1)∧Q ( Int.tmod x0 x1+x1,0)) (Q (Int.tmod x0 x1,0)))
def Fi.wp(x0:List Int)(Q:Int×Int→Prop):Prop:=Lp (σ:=Int×Int) (λy2 R2=>cond (decide (y2.1<x0.length)) ((0≤y2.1∧y2.1<x0.length)∧Lp (σ:=Int×Int) (λy4 R4=>cond (y4.1 !=0) (y4.1≠0∧R4 (Int.tmod y4.2 y4.1,y4.1)) (AA .i64 (y2.1+1)∧R2 ( y2.1+1,y4.2))) (H1.fn ( x0.getD y2.1.toNat 0,()),y2.2)) (cond (y2.2==9223372036854775808) (Q (0,3)) (AA .i64 y2.2∧Q (y2.2,0)))) (0,0)
def Dl.wp(x0:Int)(x1:Int)(Q:Int×Int→Prop):Prop:=cond (decide (x1<1)) (Q (0,1)) ((x1≠0∧AA .i64 (Int.tdiv x0 x1))∧x1≠0∧cond (decide (Int.tmod x0 x1<0)) (AA .i64 (Int.tdiv x0 x1-1)∧Q ( Int.tdiv x0 x1-1,0)) (Q (Int.tdiv x0 x1,0)))
def C9.wp(x0:Int)(x1:Int)(Q:Int×Int→Prop):Prop:=cond (decide (x1<1)) (Q (0,1)) (x1≠0∧cond (decide (Int.tmod x0 x1<0)) (AA .i64 (Int.tmod x0 x1+x1)∧Q ( Int.tmod x0 x1+x1,0)) (Q (Int.tmod x0 x1,0)))
def H1.wp(x0:Int)(Q:Int→Prop):Prop:=let v0:=IntKind.wrap .u64 x0;cond (decide (x0<0)) (Q (IntKind.wrap .u64 (-v0))) (Q v0)
theorem G1.spec(x:Int):G1.wp x λr=>r=G1.fn (x,()):=by simp[G1.wp,G1.fn,DB]
theorem G2.spec(x:Int):G2.wp x λr=>r=G2.fn (x,()):=by simp[G2.wp,G2.fn,DB]
theorem F2.spec(x:AN)(hl:x.1.length≤9223372036854775807):F2.wp x λr=>r=F2.fn (x,()):=by
 refine Lp.all x.1 0 DB hl (λi R hi hi' hf ht ET=>?_) λR h=>?_;·rw[ZGB hi'];refine⟨⟨by omega,hi'⟩,?_⟩;rw[ZGD];show cond (!DB (x.1.getD i 0)) _ _;cases h:DB (x.1.getD i 0)with|true=>exact⟨hf,ht h⟩|false=>simp[F2.fn,Bo,ET h]
 ·simp[F2.fn,G1.fn,Bo,h]
theorem HZ.spec(x:AN)(hl:x.1.length≤9223372036854775807):HZ.wp x λr=>r=HZ.fn (x,()):=by
 refine Lp.all x.1 0 DB hl (λi R hi hi' hf ht ET=>?_) λR h=>?_;·rw[ZGB hi'];refine⟨⟨by omega,hi'⟩,?_⟩;rw[ZGD];show cond (!DB (x.1.getD i 0)) _ _;cases h:DB (x.1.getD i 0)with|true=>exact⟨hf,ht h⟩|false=>simp[HZ.fn,Bo,ET h]
 ·simp[HZ.fn,G2.fn,Bo,h]
theorem B8.spec(x:O):B8.wp x λr=>r=B8.fn (x,()):=by
 obtain⟨k,m,l⟩:=x;by_cases h0:k=0;·subst h0;simp[B8.wp,B8.fn,AG,F2.fn]
 by_cases h1:k=1;·subst h1;simp[B8.wp,B8.fn,AG,F2.fn]
 by_cases h2:k=2;·subst h2;simp[B8.wp,B8.fn,AG,F2.fn]
 simp[B8.wp,B8.fn,AG,F2.fn,h0,h1,h2]
theorem EY.spec(x:O):EY.wp x λr=>r=EY.fn (x,()):=by
 obtain⟨k,m,l⟩:=x;simp only[EY.wp,EY.fn,AG,HZ.fn];cases hl:Bo l<;>by_cases h0:k=0;all_goals first|(subst h0;simp;done)|skip
 all_goals by_cases h1:k=1
 all_goals first|(subst h1;simp;done)|skip
 all_goals by_cases h2:k=2
 all_goals first|(subst h2;simp;done)|skip
 all_goals simp[h0,h1,h2]
theorem Gb.spec(x:List O)(n:Int)(hl:x.length≤9223372036854775807):Gb.wp x n λr=>r=Gb.fn (x,n,()):=by
 refine Lp.all x U (λc=>AG c&&(c.2.2.1.length:Int)==n) hl (λi R hi hi' hf ht ET=>?_) λR h=>?_;·simp only[ZGB hi',ZGD,B8.fn];refine⟨⟨by omega,hi'⟩,?_⟩;have ht':AG (x.getD i U)=true→(((x.getD i U).2.2.1.length:Int)==n)=true→R ((i:Int)+1):=λh1 h2=>ht (by rw[h1,h2];rfl);have PC:(AG (x.getD i U)&&((x.getD i U).2.2.1.length:Int)==n)=false→Gb.fn (x,n,())=false:=λh=>ET h;revert ht' PC;generalize x.getD i U=c;intro ht' PC;cases h1:AG c with|false=>simp[PC (by rw[h1];rfl)]|true=>cases h2:(c.2.2.1.length:Int)==n with|true=>simp[bne,h2,hf,ht' h1 h2]|false=>simp[bne,h2,PC (by rw[h1,h2];rfl)]
 ·simp[Gb.fn,GS,h]
theorem Cu.spec(x:AM)(hl:x.2.length≤9223372036854775807):Cu.wp x λr=>r=Cu.fn (x,()):=by
 obtain⟨n,ps⟩:=x;simp only[Cu.wp,Cu.fn];have hg:∀b:Bool,b=true→b=true∧True:=λb h=>⟨h,trivial⟩;have hn:∀b:Bool,b=false→(!b)=true:=λb h=>by rw[h];rfl
 refine⟨hg _,hg _,hn _,hg _,hg _,hg _,hn _,?_⟩;by_cases h1:n<0;·simp[h1,AY,show¬0≤n by omega]
 by_cases h2:12<n;·simp[h1,h2,AY,show¬n≤12 by omega]
 by_cases h3:(400:Int)<(ps.length:Int);·simp only[ZGB h3,ZHo,ZGC];simp[AY,show¬(ps.length:Int)≤400 by omega]
 rw[ZGF h1,ZGF h2,ZGF h3];have hv:∀b,ps.all (λp=>decide ((p.length:Int)≤96)&&GS p n)=b→AY (n,ps)=b:=λb h=>by simp only[AY,h];rw[ZGB (show(0:Int)≤n by omega),ZGB (show n≤12 by omega),ZGB (show(ps.length:Int)≤400 by omega)];rfl
 refine Lp.all ps [] (λp=>decide ((p.length:Int)≤96)&&GS p n) hl (λi R hi hi' hf ht ET=>?_) λR h=>?_
 ·simp only[ZGB hi',ZGD,Gb.fn];refine⟨⟨by omega,hi'⟩,?_⟩;by_cases h4:(96:Int)<((ps.getD i []).length:Int);·simp only[ZGB h4];have :=hv false (ET (by rw[ZGF (show¬((ps.getD i []).length:Int)≤96 by omega)];rfl));simp[this]
  ·simp only[ZGF h4];cases h5:GS (ps.getD i []) n with|true=>have :=ht (by rw[h5,ZGB (show((ps.getD i []).length:Int)≤96 by omega)];rfl);simp[hf,this]|false=>have :=hv false (ET (by rw[h5,ZJA]));simp[this]
 ·simp[hv true h]
theorem Hj.spec(x y:AM):Hj.wp x y λr=>r=Hj.fn (x,y,()):=by simp only[Hj.wp,Cu.fn,Hj.fn,JJ];by_cases h:x.1=y.1<;>cases AY x<;>cases AY y<;>simp[h]
theorem Hb.spec(x y:AM):Hb.wp x y λr=>r=Hb.fn (x,y,()):=by simp only[Hb.wp,CO.fn,Hb.fn,JJ];by_cases h:x.1=y.1<;>cases AY x<;>cases AY y<;>simp[h]
theorem iQ{α:Type}{a b:List α}{d:α}(hl:a.length=b.length)(h:∀j,j<a.length→a.getD j d=b.getD j d):a=b:=by apply ZHR hl;intro i h1 h2;have :=h i h1;rwa[A6 h1,A6 h2]at this
theorem HY.spec(x y:AN)(hl:x.1.length≤9223372036854775807):HY.wp x y λr=>r=HY.fn (x,y,()):=by
 obtain⟨c,k⟩:=x;obtain⟨d,m⟩:=y;simp only[HY.wp,HY.fn];have hg:∀b:Bool,b=true→b=true∧True:=λb h=>⟨h,trivial⟩;refine⟨hg _,hg _,λh=>⟨h,h,trivial⟩,λh=>by rw[h];rfl,?_⟩;by_cases h1:c.length=d.length
 ·by_cases h2:k=m
  ·subst h2;simp only[h1,ZGb,ZIW,ZF9];rw[show((d.length:Nat):Int)=(c.length:Int)by omega];refine Lp.iter c.length (λi y=>y=(i:Int)∧∀j,j<i→c.getD j 0=d.getD j 0) ⟨rfl,λj hj=>absurd hj (by omega)⟩ ?_;rintro i y hle⟨rfl,hi⟩R hR;by_cases e:i<c.length
   ·rw[ZGB (show(i:Int)<(c.length:Int)by omega)];refine⟨⟨by omega,by omega⟩,⟨by omega,by omega⟩,?_⟩;rw[ZGD];by_cases h3:c.getD i 0=d.getD i 0
    ·rw[h3];simp only[ZGb,ZF9];have LY:c.length≤9223372036854775807:=hl;refine⟨⟨by omega,by omega⟩,hR e _ ⟨by omega,λj hj=>?_⟩⟩;by_cases ej:j=i;·subst ej;exact h3
     ·exact hi j (by omega)
    ·rw[bne_iff_ne.2 h3];refine(ZGF λh=>h3 ?_).symm;rw[ZIN]at h;rw[h.1]
   ·have :i=c.length:=by omega
    subst this;simp only[ZGH,ZGQ,ZF9];exact(ZGB (by rw[iQ h1 hi])).symm
  ·simp only[bne_iff_ne.2 h2,ZHo,ZGC];exact(ZGF λh=>h2 (by rw[ZIN]at h;exact h.2)).symm
 ·simp only[bne_iff_ne.2 (show((c.length:Nat):Int)≠(d.length:Int)by omega),ZHp,ZGC];exact(ZGF λh=>h1 (by rw[ZIN]at h;rw[h.1])).symm
theorem GX.spec(x y:O):GX.wp x y λr=>r=GX.fn (x,y,()):=by obtain⟨k,m,l⟩:=x;obtain⟨k',m',l'⟩:=y;simp only[GX.wp,GX.fn,HY.fn];by_cases h1:k=k'<;>by_cases h2:m=m'<;>simp[h1,h2,Prod.ext_iff]
theorem iL{α:Type}{d:α}[DecidableEq α]{a b:List α}{Q:Bool→Prop}{body:Int→(Int→Prop)→Prop}(hl:a.length≤9223372036854775807)(h1:a.length=b.length)(hQ:Q (decide (a=b)))(h:∀(i:Nat)(R:Int→Prop),i<a.length→i<b.length→AA .i64 ((i:Int)+1)→(a.getD i d=b.getD i d→R ((i:Int)+1))→(a.getD i d≠b.getD i d→Q false)→body (i:Int) R)(h2:∀R:Int→Prop,Q true→body (a.length:Int) R):Lp body 0:=by
 refine Lp.iter a.length (λi y=>y=(i:Int)∧∀j,j<i→a.getD j d=b.getD j d) ⟨rfl,λj hj=>absurd hj (by omega)⟩ ?_;rintro i y hle⟨rfl,hi⟩R hR;by_cases e:i<a.length
 ·refine h i R e (by omega) ⟨by omega,by omega⟩ (λhe=>hR e _ ⟨by omega,λj hj=>?_⟩) λhne=>?_
  ·by_cases ej:j=i;·subst ej;exact he
   ·exact hi j (by omega)
  ·rwa[ZGF λh=>hne (by rw[h])]at hQ
 ·have :i=a.length:=by omega
  subst this;refine h2 R ?_;rwa[ZGB (iQ h1 hi)]at hQ
theorem GY.spec(x y:List O)(hl:x.length≤9223372036854775807):GY.wp x y λr=>r=GY.fn (x,y,()):=by
 simp only[GY.wp];by_cases h1:x.length=y.length
 ·rw[h1];simp only[ZGb,ZF9];rw[←h1];refine iL (d:=U) hl h1 (Q:=λr=>r=GY.fn (x,y,())) rfl (λi R hi hi2 hf ht ET=>?_) λR h=>?_
  ·rw[ZGB (show(i:Int)<(x.length:Int)by omega)];refine⟨⟨by omega,by omega⟩,⟨by omega,by omega⟩,?_⟩;simp only[ZGD,GX.fn];by_cases e:x.getD i U=y.getD i U;·rw[ZGB e];exact⟨hf,ht e⟩
   ·rw[ZGF e];exact ET e
  ·simp only[ZGH,ZGQ,ZF9];exact h
 ·rw[bne_iff_ne.2 (show((x.length:Nat):Int)≠(y.length:Int)by omega)];exact(ZGF λh=>h1 (ZGr List.length h)).symm
theorem Et.spec(x y:AM)(hl:x.2.length≤9223372036854775807):Et.wp x y λr=>r=Et.fn (x,y,()):=by
 obtain⟨n,a⟩:=x;obtain⟨m,b⟩:=y;simp only[Et.wp];have hg:∀b:Bool,b=true→b=true∧True:=λb h=>⟨h,trivial⟩;refine⟨hg _,hg _,hg _,hg _,λh=>⟨h,h,trivial⟩,λh=>by rw[h];rfl,?_⟩;by_cases h0:n=m
 ·by_cases h1:a.length=b.length
  ·subst h0;simp only[h1,ZGb,ZIW,ZF9];rw[←h1];refine iL (d:=[]) (a:=a) (b:=b) hl h1 (Q:=λr=>r=Et.fn ((n,a),(n,b),())) (by simp[Et.fn]) (λi R hi hi2 hf ht ET=>?_) λR h=>?_
   ·rw[ZGB (show(i:Int)<(a.length:Int)by omega)];refine⟨⟨by omega,by omega⟩,⟨by omega,by omega⟩,?_⟩;simp only[ZGD,GY.fn];by_cases e:a.getD i []=b.getD i [];·rw[ZGB e];exact⟨hf,ht e⟩
    ·rw[ZGF e];exact ET e
   ·simp only[ZGH,ZGQ,ZF9];exact h
  ·simp only[bne_iff_ne.2 (show((a.length:Nat):Int)≠(b.length:Int)by omega),ZHo,ZGC];exact(ZGF λh=>h1 (by rw[ZIN]at h;rw[h.2])).symm
 ·simp only[bne_iff_ne.2 h0,ZHp,ZGC];exact(ZGF λh=>h0 (by rw[ZIN]at h;rw[h.1])).symm
theorem FG.spec(n:Int):FG.wp n λr=>r=FG.fn (n,()):=by simp only[FG.wp,FG.fn];by_cases h:n<0<;>simp[h]
theorem H1.spec(n:Int):H1.wp n λr=>r=H1.fn (n,()):=by simp only[H1.wp,H1.fn,FG.fn];by_cases h:n<0<;>simp[h]
theorem ZFG(n:Int):IntKind.wrap .u64 n=n%18446744073709551616:=by simp[IntKind.wrap,IntKind.bits,IntKind.signed]
theorem sP{n:Int}(h:-9223372036854775807≤n)(h2:n≤9223372036854775807):FG.fn (n,())=(n.natAbs:Int):=by
 simp only[FG.fn,ZFG];split
 ·have h3:n%18446744073709551616=n+18446744073709551616:=by omega
  rw[h3];omega
 ·rw[ZJ5 (by omega) (by omega)];omega
theorem jN{a b:Int}(ha:0≤a)(hb:0<b):Nat.gcd b.toNat (a.tmod b).toNat=Nat.gcd a.toNat b.toNat:=by obtain⟨m,rfl⟩:∃m:Nat,a=m:=⟨a.toNat,by omega⟩;obtain⟨k,rfl⟩:∃k:Nat,b=k:=⟨b.toNat,by omega⟩;rw[Int.tmod_eq_emod_of_nonneg ha,←Int.natCast_emod,ZGD,ZGD,ZGD,ZK4 m k,Nat.gcd_rec k m,ZK4]
theorem ED.spec(a b:Int):ED.wp a b λr=>r=ED.fn (a,b,()):=by
 simp only[ED.wp];refine Lp.wf (λy=>ED.fn (y.2,y.1,())=ED.fn (a,b,())) (λy=>y.1.toNat) (λy hy R hR=>?_) rfl;obtain⟨b',a'⟩:=y;simp only at hy⊢;by_cases h:0<b'
 ·rw[ZGB h];have Ab:=ZJP a' h;refine⟨by omega,hR _ ?_ (by omega)⟩;rw[←hy];simp only[ED.fn];rw[ZGA (show¬b'≤0 by omega)];by_cases ha:a'<0;·rw[ZGE ha,ZGE (show a'.tmod b'≤0 from by have :=ZJh b' (show 0≤-a' by omega);rw[Int.neg_tmod]at this;omega)]
  ·rw[ZGA ha];have h0:=ZJh b' (show 0≤a' by omega);have :=jN (show 0≤a' by omega) h;by_cases hz:a'.tmod b'≤0
   ·rw[ZGE hz];have e:a'.tmod b'=0:=by omega
    rw[e]at this;simp only[Int.toNat_zero,ZK5]at this;rw[←this];omega
   ·rw[ZGA hz,ZGA (show¬b'<0 by omega),this]
 ·rw[ZGF h];rw[←hy];simp only[ED.fn];rw[ZGE (show b'≤0 by omega)];rfl
theorem EX.fn_eq(a n:Int)(ha:0≤a)(h:-9223372036854775807≤n)(h2:n≤9223372036854775807):EX.fn (a,n,())=(Nat.gcd a.toNat n.natAbs:Nat):=by
 simp only[EX.fn,sP h h2,ED.fn];split
 ·have :n.natAbs=0:=by omega
  rw[this];simp;omega
 ·rw[ZGA (by omega)];simp
theorem EX.spec(a b:Int):EX.wp a b λr=>r=EX.fn (a,b,()):=rfl
theorem FF.spec(l:List Int)(a:Int)(f:(Int×Int→Prop)×(Int×Int→Int))(hl:l.length≤9223372036854775807)(hp:FF.pre (l,a,f,())):FF.wp l a f λr=>r=FF.fn (l,a,f,()):=by
 refine Lp.foldl l 0 (λg n=>f.2 (g,n)) a hl (λi t R hi hi' hf ht hR=>?_) λR=>?_;·simp only[ZGB hi',ZGD];exact⟨⟨by omega,hi'⟩,hp _ _ (AV hi),hf,hR⟩
 ·simp only[ZGH,ZGQ,ZF9]
theorem XV{l:List Int}(h:D7 l):∀g:Nat,l.foldl (λg n=>EX.fn (g,n,())) (g:Int)=((l.foldl (λg n=>Nat.gcd g n.natAbs) g:Nat):Int):=by induction l with|nil=>exact λg=>rfl|cons n l ih=>intro g;have hn:=h n (by simp);simp only[ZG3];rw[EX.fn_eq _ _ (by omega) hn.1 hn.2];exact ih (λm hm=>h m (by simp[hm])) _
theorem jC{l:List Int}:∀g:Nat,0<g→l.foldl (λg n=>Nat.gcd g n.natAbs) g≤g:=by induction l with|nil=>exact λg _=>ZGR _|cons n l ih=>intro g hg;simp only[ZG3];exact ZGd (ih _ (ZKN _ hg)) (Nat.gcd_le_left _ hg)
theorem Te{l:List Int}(h:D7 l):AW l≤9223372036854775807:=by
 unfold AW;have key:∀l:List Int,D7 l→l.foldl (λg n=>Nat.gcd g n.natAbs) 0≤9223372036854775807:=by intro l;induction l with|nil=>exact λ_=>by simp|cons n l ih=>
  intro h;have hn:=h n (by simp);simp only[ZG3,ZJU];by_cases e:n.natAbs=0;·rw[e];exact ih λm hm=>h m (by simp[hm])
  ·exact ZGd (jC _ (by omega)) (by omega)
 exact key l h
theorem Dk.spec(l:List Int)(hp:Dk.pre (l,())):Dk.wp l λr=>r=Dk.fn (l,()):=by have hle:AW l≤9223372036854775807:=Te hp;have e:FF.fn (l,0,(λ_=>True,λa=>EX.fn (a.1,a.2,())),())=(AW l:Int):=XV hp 0;simp only[Dk.wp];refine⟨λ_ _ _=>trivial,?_⟩;rw[e,ZGF (show¬(9223372036854775807:Int)<(AW l:Int)by omega)];exact⟨⟨by omega,by omega⟩,rfl⟩
theorem iZ{a b:Int}(hb:0<b):(a.tmod b<0→a.tdiv b-1=a/b∧a.tmod b+b=a%b)∧(¬a.tmod b<0→a.tdiv b=a/b∧a.tmod b=a%b):=by
 have h1:=ZHQ a (show b≠0 by omega);have h2:=ZHH a hb;rw[Int.tmod_eq_emod,Int.tdiv_eq_ediv];split;·exact⟨λh=>by omega,λ_=>⟨by omega,by omega⟩⟩
 ·rw[Int.sign_eq_one_of_pos hb];exact⟨λ_=>⟨by omega,by omega⟩,λh=>by omega⟩
theorem zR{a b:Int}(hb:0<b)(h:-9223372036854775807≤a)(h2:a≤9223372036854775807):-9223372036854775807≤a/b∧a/b≤9223372036854775807:=by
 constructor;·rw[ZI3 hb];have :=ZIX (show(1:Int)≤b by omega) (show(0:Int)≤9223372036854775807 by omega);rw[show(-9223372036854775807:Int)=-9223372036854775807 from rfl,ZKS];omega
 ·refine Int.le_of_lt_add_one ?_;rw[Int.ediv_lt_iff_lt_mul hb];have :=ZIX (show(1:Int)≤b by omega) (show(0:Int)≤9223372036854775808 by omega);omega
theorem jA{a b:Int}(hp:D9.pre (a,b,())){Q:Int×Int→Prop}(h:Q (D9.fn (a,b,()))):cond (decide (b<(1:Int))) (Q ((0:Int),(1:Int))) ((b≠(0:Int)∧AA IntKind.i64 (Int.tdiv a b))∧b≠(0:Int)∧cond (decide (Int.tmod a b<(0:Int))) (AA IntKind.i64 (Int.tdiv a b-(1:Int))∧Q ( Int.tdiv a b-(1:Int),(0:Int))) (Q (Int.tdiv a b,(0:Int)))):=by
 simp only[D9.fn]at h;by_cases h1:b<1;·rw[ZGB h1];rwa[ZGE h1]at h
 ·rw[ZGF h1];rw[ZGA h1]at h;have hb:-9223372036854775807≤a/b∧a/b≤9223372036854775807:=zR (b:=b) (by omega) hp.1 hp.2;have hf:=iZ (a:=a) (b:=b) (by omega);have hq:AA IntKind.i64 (a.tdiv b):=by
   by_cases h2:a.tmod b<0
   ·have h5:=(hf.1 h2).1;have ha:a<0:=Int.not_le.1 λh=>by have :=ZJh b h;omega
    have :=Int.ediv_neg_of_neg_of_pos ha (show 0<b by omega);exact⟨by omega,by omega⟩
   ·have :=(hf.2 h2).1;exact⟨by omega,by omega⟩
  refine⟨⟨by omega,hq⟩,by omega,?_⟩;by_cases h2:a.tmod b<0;·rw[ZGB h2];have :=(hf.1 h2).1;rw[←this]at h;exact⟨⟨by omega,by omega⟩,h⟩
  ·rw[ZGF h2];rw[←(hf.2 h2).1]at h;exact h
theorem D9.spec(a b:Int)(hp:D9.pre (a,b,())):D9.wp a b λr=>r=D9.fn (a,b,()):=jA (Q:=λr=>r=D9.fn (a,b,())) hp rfl
theorem Dl.spec(a b:Int)(hp:Dl.pre (a,b,())):Dl.wp a b λr=>r=Dl.fn (a,b,()):=jA (Q:=λr=>r=Dl.fn (a,b,())) hp rfl
theorem pU{a b:Int}(hp:Db.pre (a,b,())){Q:Int×Int→Prop}(h:Q (Db.fn (a,b,()))):cond (decide (b<(1:Int))) (Q ((0:Int),(1:Int))) (b≠(0:Int)∧cond (decide (Int.tmod a b<(0:Int))) (AA IntKind.i64 (Int.tmod a b+b)∧Q ( Int.tmod a b+b,(0:Int))) (Q (Int.tmod a b,(0:Int)))):=by
 simp only[Db.fn]at h;have hp:b≤9223372036854775807:=hp;by_cases h1:b<1;·rw[ZGB h1];rwa[ZGE h1]at h
 ·rw[ZGF h1];rw[ZGA h1]at h;have hf:=iZ (a:=a) (b:=b) (by omega);have h3:=ZHQ a (show b≠0 by omega);have h4:=ZHH a (show 0<b by omega);refine⟨by omega,?_⟩;by_cases h2:a.tmod b<0;·rw[ZGB h2];have :=(hf.1 h2).2;rw[←this]at h;exact⟨⟨by omega,by omega⟩,h⟩
  ·rw[ZGF h2];rw[←(hf.2 h2).2]at h;exact h
theorem Db.spec(a b:Int)(hp:Db.pre (a,b,())):Db.wp a b λr=>r=Db.fn (a,b,()):=pU (Q:=λr=>r=Db.fn (a,b,())) hp rfl
theorem C9.spec(a b:Int)(hp:C9.pre (a,b,())):C9.wp a b λr=>r=C9.fn (a,b,()):=pU (Q:=λr=>r=C9.fn (a,b,())) hp rfl
theorem Fi.spec(l:List Int)(hl:l.length≤9223372036854775807)(hp:Fi.pre (l,())):Fi.wp l λr=>r=Fi.fn (l,()):=by
 have e:=XV hp 0;have hle:AW l≤9223372036854775807:=Te hp;refine Lp.foldl l 0 (λg n=>EX.fn (g,n,())) 0 hl (λi t R hi hi' hf ht hR=>?_) λR=>?_
 ·simp only[ZGB hi',ZGD];refine⟨⟨by omega,hi'⟩,?_⟩;have hn:=hp _ (AV (d:=0) hi);have h0:0≤t:=by have :=XV (l:=l.take i) (λm hm=>hp m (ZGl hm)) 0;rw[ht,show(0:Int)=((0:Nat):Int)from rfl,this];omega
  rw[EX.fn_eq _ _ h0 hn.1 hn.2]at hR;show Lp _ (FG.fn (l.getD i 0,()),t);rw[sP hn.1 hn.2];revert hR;generalize(l.getD i 0).natAbs=m;intro hR;refine Lp.wf (λy=>0≤y.1∧0≤y.2∧Nat.gcd y.2.toNat y.1.toNat=Nat.gcd t.toNat m) (λy=>y.1.toNat) (λy hy R2 BJ=>?_) ⟨by simp,h0,by simp⟩;obtain⟨b',a'⟩:=y;obtain⟨h1,h2,h3⟩:=hy;simp only at h1 h2 h3⊢;by_cases hz:b'=0;·subst hz;simp only[ZGb,ZF9];refine⟨hf,?_⟩;rw[←h3]at hR;simp only[Int.toNat_zero,ZK5,ZHD h2]at hR;exact hR
  ·rw[bne_iff_ne.2 hz];have Ab:=ZJP a' (show 0<b' by omega);have h0':=ZJh b' h2;exact⟨hz,BJ _ ⟨h0',h1,by rw[jN h2 (by omega)];exact h3⟩ (by show(a'.tmod b').toNat<b'.toNat;omega)⟩
 ·simp only[ZGH,ZGQ,ZF9];have e':l.foldl (λg n=>EX.fn (g,n,())) 0=(AW l:Int):=e;rw[e'];have :((AW l:Int)==9223372036854775808)=false:=by rw[beq_eq_false_iff_ne];omega
  rw[this];exact⟨⟨by omega,by omega⟩,rfl⟩
def CF(n:Int):Prop:=-2305843009213693952≤n∧n≤2305843009213693952
def linB(l:AN):Prop:=l.1.length≤1048576∧(∀n∈l.1,CF n)∧CF l.2
def MZ(c:O):Prop:=c.1=0∨c.1=1∨c.1=2∧1≤c.2.1∧c.2.1≤2305843009213693952
def condB(c:O):Prop:=MZ c∧linB c.2.2
def BN(p:List O):Prop:=p.length≤1048576∧∀c∈p,condB c
def Dd(b:Bool):O×Int:=(U,if b then 1 else-1)
def Gk(c:O):O×Int:=if AW c.2.2.1=0 then Dd (decide (0≤c.2.2.2))else((0,0,c.2.2.1.map (·.tdiv (AW c.2.2.1)),c.2.2.2/(AW c.2.2.1:Int)),0)
def D2:List Int→Bool|[]=>false|n::l=>if n=0 then D2 l else decide (n<0)
def CV(c:O):Int:=if D2 c.2.2.1 then-(AW c.2.2.1:Int)else(AW c.2.2.1:Int)
def CU(c:O):O×Int:=if AW c.2.2.1=0∨c.2.2.2.tmod (AW c.2.2.1)≠0 then Dd (decide (AW c.2.2.1=0)&&c.2.2.2==0)else((1,0,c.2.2.1.map (·.tdiv (CV c)),c.2.2.2.tdiv (CV c)),0)
def A9(c:O):Nat:=AW (c.2.1::c.2.2.1.map (·%c.2.1))
def FS(c:O):O×Int:=if(c.2.2.2%c.2.1).tmod (A9 c)≠0 then Dd false else if c.2.1=A9 c then Dd true else((2,c.2.1.tdiv (A9 c),(c.2.2.1.map (·%c.2.1)).map (·.tdiv (A9 c)),(c.2.2.2%c.2.1).tdiv (A9 c)),0)
def Ae(c:O):O×Int:=if c.1=0 then Gk c else if c.1=1 then CU c else FS c
abbrev DS.fn(x:O×Int×Unit):List Int:=x.1.2.2.1.map (·.tdiv x.2.1)
abbrev DS.pre(x:O×Int×Unit):Prop:=x.2.1≠0∧x.1.2.2.1.length≤1048576∧D7 x.1.2.2.1
abbrev E9.fn(x:Bool×Unit):O×Int:=Dd x.1
abbrev G4.fn(x:Bool×Unit):O×Int:=Dd x.1
abbrev FR.fn(x:O×Unit):O×Int:=Gk x.1
abbrev FR.pre(x:O×Unit):Prop:=linB x.1.2.2
abbrev FQ.fn(x:O×Unit):O×Int:=CU x.1
abbrev FQ.pre(x:O×Unit):Prop:=linB x.1.2.2
abbrev FP.fn(x:O×Unit):O×Int:=FS x.1
abbrev FP.pre(x:O×Unit):Prop:=linB x.1.2.2∧1≤x.1.2.1∧x.1.2.1≤2305843009213693952
abbrev Bv.fn(x:O×Unit):O×Int:=Ae x.1
abbrev Bv.pre(x:O×Unit):Prop:=condB x.1
def Dj(c:O):O×Int×Int:=if(Ae c).2=0∧AG (Ae c).1=false then(U,0,3)else((Ae c).1,(Ae c).2,0)
abbrev Ds.fn(x:O×Unit):O×Int×Int:=Dj x.1
abbrev Ds.pre(x:O×Unit):Prop:=condB x.1
def IV(l:AN)(k:Int):AN:=(l.1.map λn=>-n,k-l.2)
abbrev Fs.fn(x:AN×Int×Unit):AN:=IV x.1 x.2.1
abbrev Fs.pre(x:AN×Int×Unit):Prop:=linB x.1∧CF x.2.1
def CI(c:O):List O:=if c.1=0 then[(0,0,IV c.2.2 (-1))]else if c.1=1 then[(0,0,c.2.2.1,c.2.2.2-1),(0,0,IV c.2.2 (-1))]else(List.range (c.2.1-1).toNat).map λ(r:Nat)=>((2,c.2.1,c.2.2.1,c.2.2.2-((r:Int)+1)):O)
abbrev E8.fn(x:O×Unit):List O:=CI x.1
abbrev E8.pre(x:O×Unit):Prop:=AG x.1=true
def G0(n:Nat)(out:List O)(o:O):Option (List O):=if(Dj o).2.2≠0 then none else if 0<(Dj o).2.1 then some (out++[(0,0,List.replicate n 0,0)])else if(Dj o).2.1<0 then some out else some (out++[(Dj o).1])
def Cr(c:O):List O×Int:=if AG c=false then([],1)else match(CI c).foldlM (G0 c.2.2.1.length) []with|none=>([],3)|some out=>if 400<out.length then([],3)else(out,0)
abbrev G7.fn(x:O×Unit):List O×Int:=Cr x.1
def Dr(a b:Int):Int:=if a<b then-1 else if b<a then 1 else 0
def Bh:List Int→List Int→Int|[],[]=>0|[],_::_=>-1|_::_,[]=>1|x::a,y::b=>if Dr x y=0 then Bh a b else Dr x y
def Mm:List Int→Int|[]=>0|n::l=>if n=0 then Mm l else n
def C8(k:Int):Int:=if k=0 then 1 else if k=1 then 0 else 2
def EE(a b:O):Int:=Mm [Dr (C8 a.1) (C8 b.1),Dr a.2.1 b.2.1,Bh a.2.2.1 b.2.2.1,Dr a.2.2.2 b.2.2.2]
abbrev Gg.fn(x:Int×Unit):Bool:=false
abbrev FO.fn(x:Int×Int×Unit):Int:=Dr x.1 x.2.1
abbrev IB.fn(x:List Int×Unit):Int:=Mm x.1
abbrev H5.fn(x:List Int×List Int×Unit):Int:=Bh x.1 x.2.1
def IT(k:Int):Prop:=k=0∨k=1∨k=2
abbrev D1.fn(x:O×O×Unit):Int:=EE x.1 x.2.1
abbrev D1.pre(x:O×O×Unit):Prop:=IT x.1.1∧IT x.2.1.1
abbrev Hi.fn(x:O×Unit):Bool:=!AG x.1
abbrev Ec.fn(x:O×O×Unit):Bool:=EE x.1 x.2.1==0
abbrev Ec.pre(x:O×O×Unit):Prop:=IT x.1.1∧IT x.2.1.1
def I1{α:Type}(f:α→Bool):List α→Int→Int|[],_=>-1|x::l,i=>if f x then i else I1 f l (i+1)
abbrev Gd.fn(x:List O×((O→Prop)×(O→Bool))×Unit):Int:=I1 x.2.1.2 x.1 0
abbrev Gd.pre(x:List O×((O→Prop)×(O→Bool))×Unit):Prop:=∀c∈x.1,x.2.1.1 c
abbrev Ey.fn(x:List O×((O→Prop)×(O→Bool))×Unit):Bool:=x.1.any x.2.1.2
abbrev Ey.pre(x:List O×((O→Prop)×(O→Bool))×Unit):Prop:=∀c∈x.1,x.2.1.1 c
def DS.wp(x0:O)(x1:Int)(Q:List Int→Prop):Prop:=(0≤(x0.2.2.1.length:Int)∧x0.2.2.1.length≤(x0.2.2.1.length:Int)∧x0.2.2.1.length*((8:Nat):Int)≤140737488355328∧(x0.2.2.1.length:Int)≤9223372036854775807)∧Lp (σ:=Int×List Int) (λy3 R3=>let v2:=x0.2.2.1.getD y3.1.toNat 0;cond (decide (y3.1<x0.2.2.1.length)) ((0≤y3.1∧y3.1<x0.2.2.1.length)∧(x1≠0∧AA .i64 (Int.tdiv v2 x1))∧(0≤y3.1∧y3.1<y3.2.length)∧Int.toNat y3.1<y3.2.length∧AA .i64 (y3.1+1)∧R3 ( y3.1+1,List.set y3.2 y3.1.toNat (Int.tdiv v2 x1))) (Q y3.2)) (0,.replicate (Int.toNat x0.2.2.1.length) 0)
def E9.wp(x0:Bool)(Q:O×Int→Prop):Prop:=cond x0 (Q (U,1)) (Q (U,-1))
def FR.wp(x0:O)(Q:O×Int→Prop):Prop:=let v0:=Dk.fn (x0.2.2.1,());Dk.pre (x0.2.2.1,())∧cond (v0.1==0) (Q (E9.fn (decide (0≤x0.2.2.2),()))) (D9.pre (x0.2.2.2,(v0.1,()))∧DS.pre (x0,(v0.1,()))∧Q ((0,(0,( DS.fn (x0,(v0.1,())),(D9.fn (x0.2.2.2,(v0.1,()))).1))),0))
def FQ.wp(x0:O)(Q:O×Int→Prop):Prop:=let v0:=Dk.fn (x0.2.2.1,());let v3:=Int.tdiv x0.2.2.2 (-v0.1);let v5:=DS.fn (x0,(v0.1,()));Dk.pre (x0.2.2.1,())∧( ! v0.1==0=true→! v0.1==0=true∧True)∧( ! v0.1==0=true→! v0.1==0=true∧True)∧((! v0.1==0)=true→(! v0.1==0)=true∧True)∧((! v0.1==0)=true→(! v0.1==0)=true∧(! v0.1==0)=true∧v0.1≠0)∧( ! v0.1==0=true→(! v0.1==0)=true∧True)∧((v0.1==0)=false→(! v0.1==0)=true)∧cond ( v0.1==0||Int.tmod x0.2.2.2 v0.1 !=0) (((v0.1==0)=true→(v0.1==0)=true∧True)∧((v0.1==0)=true→(v0.1==0)=true∧True)∧((v0.1==0)=true→(v0.1==0)=true∧True)∧((v0.1==0)=true→(v0.1==0)=true∧True)∧((v0.1==0)=true→(v0.1==0)=true)∧Q (E9.fn ( v0.1==0&&x0.2.2.2==0,()))) (Lp (σ:=Int) (λy2 R2=>let v2:=x0.2.2.1.getD y2.toNat 0;cond (decide (y2<x0.2.2.1.length)) ((0≤y2∧y2<x0.2.2.1.length)∧cond (v2 !=0) (cond (decide (v2<0)) (AA .i64 (-v0.1)∧DS.pre (x0,(-v0.1,()))∧(-v0.1≠0∧AA .i64 v3)∧Q ((1,(0,( DS.fn (x0,(-v0.1,())),v3))),0)) (DS.pre (x0,(v0.1,()))∧(v0.1≠0∧AA .i64 (Int.tdiv x0.2.2.2 v0.1))∧Q ((1,(0,(v5,Int.tdiv x0.2.2.2 v0.1))),0))) (AA .i64 (y2+1)∧R2 (y2+1))) (DS.pre (x0,(v0.1,()))∧(v0.1≠0∧AA .i64 (Int.tdiv x0.2.2.2 v0.1))∧Q ((1,(0,(v5,Int.tdiv x0.2.2.2 v0.1))),0))) 0)
def FP.wp(x0:O)(Q:O×Int→Prop):Prop:=let v7:=Db.fn (x0.2.2.2,(x0.2.1,()));(0≤(x0.2.2.1.length:Int)∧x0.2.2.1.length≤(x0.2.2.1.length:Int)∧x0.2.2.1.length*((8:Nat):Int)≤140737488355328∧(x0.2.2.1.length:Int)≤9223372036854775807)∧Lp (σ:=Int×Int×List Int) (λy2 R2=>let v2:=x0.2.2.1.getD y2.1.toNat 0;let v4:=List.set y2.2.2 y2.1.toNat (Db.fn (v2,(x0.2.1,()))).1;let v5:=v4.getD y2.1.toNat 0;cond (decide (y2.1<x0.2.2.1.length)) ((0≤y2.1∧y2.1<x0.2.2.1.length)∧Db.pre (v2,(x0.2.1,()))∧(0≤y2.1∧y2.1<y2.2.2.length)∧Int.toNat y2.1<y2.2.2.length∧(0≤y2.1∧y2.1<v4.length)∧Int.toNat y2.1<v4.length∧Dk.pre ([y2.2.1,v5],())∧AA .i64 (y2.1+1)∧R2 ( y2.1+1,((Dk.fn ([y2.2.1,v5],())).1,v4))) (Db.pre (x0.2.2.2,(x0.2.1,()))∧y2.2.1≠0∧cond (Int.tmod v7.1 y2.2.1 !=0) (Q (E9.fn (false,()))) (cond (x0.2.1==y2.2.1) (Q ((((E9.fn (true,())).1).1,((((E9.fn (true,())).1).2).1,(((E9.fn (true,())).1).2).2)),(E9.fn (true,())).2)) (DS.pre ((0,(0,(y2.2.2,v7.1))),(y2.2.1,()))∧(y2.2.1≠0∧AA .i64 (Int.tdiv v7.1 y2.2.1))∧(y2.2.1≠0∧AA .i64 (Int.tdiv x0.2.1 y2.2.1))∧Q ((2,(Int.tdiv x0.2.1 y2.2.1,( DS.fn ((0,(0,(y2.2.2,v7.1))),(y2.2.1,())),Int.tdiv v7.1 y2.2.1))),0))))) (0,(x0.2.1,.replicate (Int.toNat x0.2.2.1.length) 0))
def Bv.wp(x0:O)(Q:O×Int→Prop):Prop:=cond (decide (x0.1=0)) (FR.pre ((0,x0.2),())∧Q (FR.fn ((0,x0.2),()))) (cond (decide (x0.1=1)) (FQ.pre ((1,x0.2),())∧Q (FQ.fn ((1,x0.2),()))) (cond (decide (x0.1=2)) (FP.pre ((2,x0.2),())∧Q (FP.fn ((2,x0.2),()))) False))
def Ds.wp(x0:O)(Q:O×Int×Int→Prop):Prop:=Bv.pre (x0,())∧(((Bv.fn (x0,())).2==0)=true→((Bv.fn (x0,())).2==0)=true∧True)∧(((Bv.fn (x0,())).2==0)=true→((Bv.fn (x0,())).2==0)=true∧True)∧(((Bv.fn (x0,())).2==0)=true→((Bv.fn (x0,())).2==0)=true)∧cond ((Bv.fn (x0,())).2==0&&! B8.fn ((((Bv.fn (x0,())).1).1,((((Bv.fn (x0,())).1).2).1,(((Bv.fn (x0,())).1).2).2)),())) (Q (U,(0,3))) (Q ((((Bv.fn (x0,())).1).1,((((Bv.fn (x0,())).1).2).1,(((Bv.fn (x0,())).1).2).2)),((Bv.fn (x0,())).2,0)))
def Fs.wp(x0:AN)(x1:Int)(Q:AN→Prop):Prop:=(0≤(x0.1.length:Int)∧x0.1.length≤(x0.1.length:Int)∧x0.1.length*((8:Nat):Int)≤140737488355328∧(x0.1.length:Int)≤9223372036854775807)∧AA .i64 (x1-x0.2)∧Lp (σ:=Int×List Int) (λy3 R3=>let v2:=x0.1.getD y3.1.toNat 0;cond (decide (y3.1<x0.1.length)) ((0≤y3.1∧y3.1<x0.1.length)∧AA .i64 (-v2)∧(0≤y3.1∧y3.1<y3.2.length)∧Int.toNat y3.1<y3.2.length∧AA .i64 (y3.1+1)∧R3 ( y3.1+1,List.set y3.2 y3.1.toNat (-v2))) (Q (y3.2,x1-x0.2))) (0,.replicate (Int.toNat x0.1.length) 0)
def E8.wp(x0:O)(Q:List O→Prop):Prop:=let v0:=Fs.fn (x0.2.2,(-1,()));Fs.pre (x0.2.2,(-1,()))∧cond (x0.1==0) (Q [(0,(0,v0))]) (cond (x0.1==1) (AA .i64 (x0.2.2.2-1)∧Q [(0,(0,(x0.2.2.1,x0.2.2.2-1))),(0,(0,v0))]) (Lp (σ:=Int×List O) (λy2 R2=>let v3:=[(2,(x0.2.1,(x0.2.2.1,x0.2.2.2-y2.1)))];cond (decide (y2.1<x0.2.1)) (AA .i64 (x0.2.2.2-y2.1)∧((y2.2.length+v3.length)*48≤140737488355328∧y2.2.length+v3.length≤9223372036854775807)∧AA .i64 (y2.1+1)∧R2 ( y2.1+1,y2.2++v3)) (Q y2.2)) (1,([]:List O))))
def G7.wp(x0:O)(Q:List O×Int→Prop):Prop:=let v0:=List.length (E8.fn (x0,()));let v4:=[(0,(0,(.replicate (Int.toNat x0.2.2.1.length) 0,0)))];cond (! B8.fn (x0,())) (Q (([]:List O),1)) (E8.pre (x0,())∧Lp (σ:=Int×List O) (λy2 R2=>let v1:=List.getD (E8.fn (x0,())) y2.1.toNat U;let v5:=[(((Ds.fn (v1,())).1).1,((((Ds.fn (v1,())).1).2).1,(((Ds.fn (v1,())).1).2).2))];cond (decide (y2.1<((v0:Nat):Int))) ((0≤y2.1∧y2.1<((v0:Nat):Int))∧Ds.pre (v1,())∧cond (((Ds.fn (v1,())).2).2 !=0) (Q (([]:List O),((Ds.fn (v1,())).2).2)) (cond (decide (0<((Ds.fn (v1,())).2).1)) ((0≤(x0.2.2.1.length:Int)∧x0.2.2.1.length≤(x0.2.2.1.length:Int)∧x0.2.2.1.length*((8:Nat):Int)≤140737488355328∧(x0.2.2.1.length:Int)≤9223372036854775807)∧((y2.2.length+v4.length)*48≤140737488355328∧y2.2.length+v4.length≤9223372036854775807)∧AA .i64 (y2.1+1)∧R2 ( y2.1+1,y2.2++v4)) (cond (decide (((Ds.fn (v1,())).2).1<0)) (AA .i64 (y2.1+1)∧R2 ( y2.1+1,y2.2)) (((y2.2.length+v5.length)*48≤140737488355328∧y2.2.length+v5.length≤9223372036854775807)∧AA .i64 (y2.1+1)∧R2 ( y2.1+1,y2.2++v5))))) (cond (decide (400<(y2.2.length:Int))) (Q (([]:List O),3)) (Q (y2.2,0)))) (0,([]:List O)))
def Gg.wp(x0:Int)(Q:Bool→Prop):Prop:=Q (x0 !=x0)
def FO.wp(x0:Int)(x1:Int)(Q:Int→Prop):Prop:=let v1:=Gg.fn (x1,());cond (Gg.fn (x0,())) (cond v1 (Q 0) (Q (-1))) (cond v1 (Q 1) (cond (decide (x0<x1)) (Q (-1)) (cond (decide (x1<x0)) (Q 1) (Q 0))))
def IB.wp(x0:List Int)(Q:Int→Prop):Prop:=Lp (σ:=Int) (λy2 R2=>let v0:=x0.getD y2.toNat 0;cond (decide (y2<x0.length)) ((0≤y2∧y2<x0.length)∧cond (v0 !=0) (Q v0) (AA .i64 (y2+1)∧R2 (y2+1))) (Q 0)) 0
def H5.wp(x0:List Int)(x1:List Int)(Q:Int→Prop):Prop:=Lp (σ:=Int) (λy3 R3=>let v2:=FO.fn ( x0.getD y3.toNat 0,( x1.getD y3.toNat 0,()));cond (decide (y3<x0.length)) ((0≤y3∧y3<x0.length)∧cond (decide (x1.length≤y3)) (Q 1) ((0≤y3∧y3<x1.length)∧cond (v2 !=0) (Q v2) (AA .i64 (y3+1)∧R3 (y3+1)))) (cond (decide (x0.length<(x1.length:Int))) (Q (-1)) (Q 0))) 0
def D1.wp(x0:O)(x1:O)(Q:Int→Prop):Prop:=let v1:=[1,0,2];3=List.length (.replicate 3 (0:Int))∧(0≤x0.1∧x0.1<((3:Nat):Int))∧Int.toNat x0.1<v1.length∧(0≤x1.1∧x1.1<((3:Nat):Int))∧Int.toNat x1.1<v1.length∧Q (IB.fn ([FO.fn ( v1.getD x0.1.toNat 0,( v1.getD x1.1.toNat 0,())),FO.fn (x0.2.1,(x1.2.1,())),H5.fn (x0.2.2.1,(x1.2.2.1,())),FO.fn (x0.2.2.2,(x1.2.2.2,()))],()))
def Hi.wp(x0:O)(Q:Bool→Prop):Prop:=Q ! B8.fn (x0,())
def Ec.wp(x0:O)(x1:O)(Q:Bool→Prop):Prop:=D1.pre (x0,(x1,()))∧Q ( D1.fn (x0,(x1,()))==0)
def Gd.wp(x0:List O)(x1:(O→Prop)×(O→Bool))(Q:Int→Prop):Prop:=Lp (σ:=Int) (λy3 R3=>let v0:=x0.getD y3.toNat U;cond (decide (y3<x0.length)) ((0≤y3∧y3<x0.length)∧x1.1 v0∧cond (x1.2 v0) (Q y3) (AA .i64 (y3+1)∧R3 (y3+1))) (Q (-1))) 0
def Ey.wp(x0:List O)(x1:(O→Prop)×(O→Bool))(Q:Bool→Prop):Prop:=Gd.pre (x0,((λ(a3:O)=>x1.1 a3,λ(a3:O)=>x1.2 a3),()))∧Q (decide (0≤Gd.fn (x0,((λ(a3:O)=>x1.1 a3,λ(a3:O)=>x1.2 a3),()))))
theorem linB.ints{l:AN}(h:linB l):D7 l.1:=λn hn=>by have :=h.2.1 n hn;unfold CF at this;omega
theorem Uu(n g:Int):(n.tdiv g).natAbs≤n.natAbs:=by rw[ZKO];exact ZKP _ _
theorem Mx{n g:Int}(h:-9223372036854775807≤n)(h2:n≤9223372036854775807):AA .i64 (n.tdiv g):=by have :=Uu n g;exact⟨by omega,by omega⟩
theorem DS.spec(c:O)(g:Int)(hp:DS.pre (c,g,())):DS.wp c g λr=>r=DS.fn (c,g,()):=by
 obtain⟨h1,h2,h3⟩:=hp;simp only at h1 h2 h3;simp only[DS.wp,ZGD];refine⟨⟨by omega,by omega,by omega,by omega⟩,?_⟩;refine Lp.fill c.2.2.1 0 0 (·.tdiv g) (by omega) (λi out R hi hi' hf ho hR=>?_) λR=>?_;·simp only[ZGB hi',ZGD];have hn:=h3 _ (AV (d:=0) hi);exact⟨⟨by omega,hi'⟩,⟨h1,Mx hn.1 hn.2⟩,⟨by omega,by omega⟩,by omega,hf,hR⟩
 ·simp only[ZGH,ZGQ,ZF9]
theorem E9.spec(b:Bool):E9.wp b λr=>r=E9.fn (b,()):=by cases b<;>rfl
theorem Qc:∀{l:List Int}{g:Nat},l.foldl (λg n=>Nat.gcd g n.natAbs) g∣g∧∀n∈l,l.foldl (λg n=>Nat.gcd g n.natAbs) g∣n.natAbs
 |[],g=>⟨Nat.dvd_refl _,λn hn=>by cases hn⟩|m::l,g=>by
  obtain⟨h1,h2⟩:=Qc (l:=l) (g:=Nat.gcd g m.natAbs);refine⟨Nat.dvd_trans h1 (Nat.gcd_dvd_left _ _),λn hn=>?_⟩;rcases List.mem_cons.1 hn with rfl|hn;·exact Nat.dvd_trans h1 (Nat.gcd_dvd_right _ _)
  ·exact h2 n hn
theorem XX{l:List Int}(h:AW l=0):∀n∈l,n=0:=λn hn=>by have :=(Qc (l:=l) (g:=0)).2 n hn;have h':l.foldl (λg n=>Nat.gcd g n.natAbs) 0=0:=h;rw[h',Nat.zero_dvd]at this;omega
theorem FR.spec(c:O)(hp:FR.pre (c,())):FR.wp c λr=>r=FR.fn (c,()):=by
 have hb:linB c.2.2:=hp;obtain⟨h1,h2,h3⟩:=id hb;unfold CF at h3;simp only[FR.wp,Dk.fn,FR.fn,Gk,E9.fn];refine⟨hb.ints,?_⟩;by_cases hg:AW c.2.2.1=0;·rw[hg];simp
 ·rw[beq_eq_false_iff_ne.2 (show((AW c.2.2.1:Nat):Int)≠0 by omega),ZGA hg];refine⟨⟨by show-9223372036854775807≤c.2.2.2;omega,by show c.2.2.2≤9223372036854775807;omega⟩,⟨by show((AW c.2.2.1:Nat):Int)≠0;omega,h1,hb.ints⟩,?_⟩;simp only[DS.fn,D9.fn];rw[ZGA (show¬((AW c.2.2.1:Nat):Int)<1 by omega)]
theorem TT{l:List Int}{i:Nat}(h:∀j,j<i→l.getD j 0=0):D2 l=D2 (l.drop i):=by induction i generalizing l with|zero=>rfl|succ i ih=>cases l with|nil=>rfl|cons n l=>have h0:=h 0 (by omega);simp at h0;simp only[D2,ZGE h0,ZIJ];exact ih λj hj=>by have :=h (j+1) (by omega);simpa using this
theorem FQ.spec(c:O)(hp:FQ.pre (c,())):FQ.wp c λr=>r=FQ.fn (c,()):=by
 have hb:linB c.2.2:=hp;obtain⟨h1,h2,h3⟩:=id hb;unfold CF at h3;have Hu:AW c.2.2.1≤9223372036854775807:=Te hb.ints;simp only[FQ.wp,Dk.fn,E9.fn,DS.fn];have hg:∀b:Bool,b=true→b=true∧True:=λb h=>⟨h,trivial⟩;refine⟨hb.ints,hg _,hg _,hg _,?_,hg _,λh=>by rw[h];rfl,?_⟩;·intro h;refine⟨h,h,?_⟩;intro e;rw[e]at h;simp at h
 have hfn:FQ.fn (c,())=CU c:=rfl;by_cases hz:AW c.2.2.1=0;·rw[hfn,CU,ZGE (.inl hz),hz];simp
 ·have GH:((AW c.2.2.1:Nat):Int)≠0:=by omega
  rw[beq_eq_false_iff_ne.2 GH];by_cases hm:c.2.2.2.tmod (AW c.2.2.1)≠0;·rw[bne_iff_ne.2 hm,hfn,CU,ZGE (.inr hm)];simp[hz]
  ·have hm':c.2.2.2.tmod (AW c.2.2.1)=0:=by simpa using hm
   rw[hm',ZGb,ZIW,ZF9,hfn,CU,ZGA (by simp[hz,hm'])];have NT:∀g:Int,g≠0→DS.pre (c,g,()):=λg hg=>⟨hg,h1,hb.ints⟩;have Nb:∀g:Int,AA .i64 (c.2.2.2.tdiv g):=λg=>Mx (by omega) (by omega);refine Lp.iter c.2.2.1.length (λi y=>y=(i:Int)∧∀j,j<i→c.2.2.1.getD j 0=0) ⟨rfl,λj hj=>absurd hj (by omega)⟩ ?_;rintro i y hle⟨rfl,hi⟩R hR;by_cases e:i<c.2.2.1.length
   ·rw[ZGB (show(i:Int)<(c.2.2.1.length:Int)by omega)];refine⟨⟨by omega,by omega⟩,?_⟩;simp only[ZGD];by_cases hn:c.2.2.1.getD i 0=0
    ·simp only[hn,ZGb,ZF9];refine⟨⟨by omega,by omega⟩,hR e _ ⟨by omega,λj hj=>?_⟩⟩;by_cases ej:j=i;·subst ej;exact hn
     ·exact hi j (by omega)
    ·simp only[bne_iff_ne.2 hn,ZGC];have hfn:D2 c.2.2.1=decide (c.2.2.1.getD i 0<0):=by rw[TT hi,ZG2 e];rw[A6 e]at hn;simp only[D2,ZGA hn,A6 e]
     by_cases Cj:c.2.2.1.getD i 0<0;·rw[ZGB Cj]at hfn;simp only[ZGB Cj,ZGC];refine⟨⟨by omega,by omega⟩,NT _ (by omega),⟨by omega,Nb _⟩,?_⟩;simp only[CV,hfn,ZHa]
     ·rw[ZGF Cj]at hfn;simp only[ZGF Cj,ZF9];refine⟨NT _ GH,⟨GH,Nb _⟩,?_⟩;simp[CV,hfn]
   ·have :i=c.2.2.1.length:=by omega
    subst this;rw[ZGF (ZGH _)];refine⟨NT _ GH,⟨GH,Nb _⟩,?_⟩;have hfn:D2 c.2.2.1=false:=by rw[TT hi,ZHN];rfl
    simp[CV,hfn]
theorem B0{α:Type}{l:List α}{i:Nat}(d:α)(h:i<l.length):l.take (i+1)=l.take i++[l.getD i d]:=by rw[A6 h];simp
theorem ZAf{α β:Type}{l:List α}{d:α}{z:β}{f:α→β}{i:Nat}(e:i<l.length):((l.take i).map f++List.replicate (l.length-i) z).set i (f (l.getD i d))=(l.take (i+1)).map f++List.replicate (l.length-(i+1)) z:=by
 have h1:l.length-i=l.length-(i+1)+1:=by omega
 rw[h1,ZIv,ZIO _ _ (by simp;omega)];have h3:i-((l.take i).map f).length=0:=by simp;omega
 rw[h3,ZJz,B0 d e,ZGp,ZGy];rfl
theorem ZAq(m:Int)(l:List Int)(n:Int):AW (m::(l++[n]))=Nat.gcd (AW (m::l)) n.natAbs:=by simp only[AW,ZG3,ZHC,List.foldl_nil]
theorem ZAr(a b:Int):AW [a,b]=Nat.gcd a.natAbs b.natAbs:=by simp[AW]
theorem Qd{m:Int}(h:1≤m)(l:List Int):0<AW (m::l):=by
 rcases ZK3 (AW (m::l))with h0|h0;·have :=XX h0 m (by simp);omega
 ·exact h0
theorem XW{m:Int}(h:1≤m)(l:List Int):AW (m::l)≤m.toNat:=by have :=jC (l:=l) m.natAbs (by omega);simp only[AW,ZG3,ZJU];omega
theorem FP.spec(c:O)(hp:FP.pre (c,())):FP.wp c λr=>r=FP.fn (c,()):=by
 obtain⟨hb,EV,Iy⟩:=hp;simp only at hb EV Iy;obtain⟨h1,h2,h3⟩:=id hb;unfold CF at h3;have hfn:FP.fn (c,())=FS c:=rfl;simp only[FP.wp,ZGD];refine⟨⟨by omega,by omega,by omega,by omega⟩,?_⟩;have HH:∀n,Db.fn (n,c.2.1,())=(n%c.2.1,0):=λn=>by simp only[Db.fn];rw[ZGA (by omega)]
 simp only[HH];refine Lp.iter c.2.2.1.length (λi y=>y=((i:Int),((AW (c.2.1::(c.2.2.1.take i).map (·%c.2.1)):Nat):Int),(c.2.2.1.take i).map (·%c.2.1)++List.replicate (c.2.2.1.length-i) 0)) ?_ ?_
 ·have :AW [c.2.1]=c.2.1.natAbs:=by simp[AW]
  simp[this];omega
 rintro i y hle rfl R hR;have hr:∀n:Int,0≤n%c.2.1∧n%c.2.1<c.2.1:=λn=>⟨ZHQ _ (by omega),ZHH _ (by omega)⟩;have Hu:=XW EV ((c.2.2.1.take i).map (·%c.2.1));by_cases e:i<c.2.2.1.length
 ·have PF:=ZAf (z:=(0:Int)) (f:=(·%c.2.1)) (d:=(0:Int)) e;simp only[ZGB (show(i:Int)<(c.2.2.1.length:Int)by omega),ZGD,ZGC];rw[PF];have hlen:((c.2.2.1.take (i+1)).map (·%c.2.1)++List.replicate (c.2.2.1.length-(i+1)) (0:Int)).length=c.2.2.1.length:=by simp;omega
  have BR:((c.2.2.1.take (i+1)).map (·%c.2.1)++List.replicate (c.2.2.1.length-(i+1)) (0:Int)).getD i 0=c.2.2.1.getD i 0%c.2.1:=by rw[A6 (by rw[hlen];exact e),ZIp (by simp;omega),A6 e];simp
  rw[BR];have hq:=hr (c.2.2.1.getD i 0);refine⟨⟨by omega,by omega⟩,by show c.2.1≤9223372036854775807;omega,⟨by omega,by simp;omega⟩,by simp;omega,⟨by omega,by rw[hlen];omega⟩,by rw[hlen];exact e,?_,⟨by omega,by omega⟩,hR e _ ?_⟩;·intro n hn;simp only[ZGe,ZIc,ZJZ]at hn;rcases hn with rfl|rfl<;>constructor<;>omega
  ·simp only[Dk.fn,ZAr,ZJO];rw[B0 0 e,ZGp,ZGi,ZIA,ZAq];rfl
 ·have :i=c.2.2.1.length:=by omega
  subst this;simp only[ZGN,ZIr,ZKu,ZGZ,ZGH,ZGQ,ZF9];have AU:=Qd EV (c.2.2.1.map (·%c.2.1));rw[ZGN]at Hu;have X5:A9 c=AW (c.2.1::c.2.2.1.map (·%c.2.1)):=rfl;rw[←X5]at AU Hu⊢;have hq:=hr c.2.2.2;refine⟨by show c.2.1≤9223372036854775807;omega,by omega,?_⟩;rw[hfn,FS];by_cases ht:(c.2.2.2%c.2.1).tmod (A9 c)≠0;·rw[bne_iff_ne.2 ht,ZGE ht];rfl
  ·rw[ZGA ht];have ht:(c.2.2.2%c.2.1).tmod (A9 c)=0:=by simpa using ht
   rw[ht,ZGb];by_cases he:c.2.1=A9 c;·rw[ZGE he];simp only[beq_iff_eq.2 he,ZGC,ZF9]
   ·rw[ZGA he,beq_eq_false_iff_ne.2 he];refine⟨⟨by show((A9 c:Nat):Int)≠0;omega,by simpa using h1,λn hn=>?_⟩,⟨by omega,Mx (by omega) (by omega)⟩,⟨by omega,Mx (by omega) (by omega)⟩,rfl⟩;simp only[ZGt]at hn;obtain⟨a,_,rfl⟩:=hn;have :=hr a;constructor<;>omega
theorem Bv.spec(c:O)(hp:Bv.pre (c,())):Bv.wp c λr=>r=Bv.fn (c,()):=by
 obtain⟨hk,hl⟩:MZ c∧linB c.2.2:=hp;obtain⟨k,r⟩:=c;simp only[Bv.wp,Bv.fn,Ae,FR.fn,FQ.fn,FP.fn];rcases hk with h|h|⟨h,h2,h3⟩;·have h:k=0:=h;subst h;exact⟨hl,rfl⟩
 ·have h:k=1:=h;subst h;exact⟨hl,rfl⟩
 ·have h:k=2:=h;subst h;exact⟨⟨hl,h2,h3⟩,rfl⟩
theorem Ds.spec(c:O)(hp:Ds.pre (c,())):Ds.wp c λr=>r=Ds.fn (c,()):=by
 simp only[Ds.wp,Bv.fn,B8.fn,Ds.fn,Dj];have hg:∀b:Bool,b=true→b=true∧True:=λb h=>⟨h,trivial⟩;refine⟨hp,hg _,hg _,λh=>h,?_⟩;by_cases h1:(Ae c).2=0;·cases h2:AG (Ae c).1 with|true=>simp[h1]|false=>simp[h1]
 ·simp[h1]
theorem Fs.spec(l:AN)(k:Int)(hp:Fs.pre (l,k,())):Fs.wp l k λr=>r=Fs.fn (l,k,()):=by
 obtain⟨⟨h1,h2,h3⟩,h4⟩:=hp;simp only at h1 h2 h3 h4;unfold CF at h3 h4;simp only[Fs.wp,ZGD];refine⟨⟨by omega,by omega,by omega,by omega⟩,⟨by omega,by omega⟩,?_⟩;refine Lp.fill l.1 0 0 (λn=>-n) (by omega) (λi out R hi hi' hf ho hR=>?_) λR=>?_;·simp only[ZGB hi',ZGD];have hn:=h2 _ (AV (d:=0) hi);unfold CF at hn;exact⟨⟨by omega,hi'⟩,⟨by omega,by omega⟩,⟨by omega,by omega⟩,by omega,hf,hR⟩
 ·simp only[ZGH,ZGQ,ZF9];rfl
theorem DB.bound{n:Int}(h:DB n=true):-1048576≤n∧n≤1048576:=by simpa[DB]using h
theorem Bo.b{l:AN}(h:Bo l=true):l.1.length≤12∧(∀n∈l.1,-1048576≤n∧n≤1048576)∧-1048576≤l.2∧l.2≤1048576:=by simp only[Bo,ZGW,ZHi,ZG0]at h;exact⟨by omega,λn hn=>DB.bound (h.1 n hn),DB.bound h.2.2⟩
theorem AG.lin{c:O}(h:AG c=true):Bo c.2.2=true:=by
 unfold AG at h;split at h;·simp only[ZGW]at h;exact h.2
 ·split at h;·simp only[ZGW]at h;exact h.2
  ·cases h
theorem AG.kind{c:O}(h:AG c=true):c.1=0∧c.2.1=0∨c.1=1∧c.2.1=0∨c.1=2∧1≤c.2.1∧c.2.1≤512:=by
 unfold AG at h;split at h
 ·rename_i hk;simp only[ZGW,ZIF]at h;rcases hk with hk|hk;·exact .inl ⟨hk,h.1⟩
  ·exact .inr (.inl ⟨hk,h.1⟩)
 ·split at h;·rename_i hk;simp only[ZGW,ZG0]at h;exact .inr (.inr ⟨hk,h.1.1,h.1.2⟩)
  ·cases h
theorem Bo.linB{l:AN}(h:Bo l=true):linB l:=by have :=Bo.b h;exact⟨by omega,λn hn=>by have :=this.2.1 n hn;exact⟨by omega,by omega⟩,by omega,by omega⟩
theorem AG.condB{c:O}(h:AG c=true):condB c:=by
 refine⟨?_,Bo.linB (AG.lin h)⟩;rcases AG.kind h with h|h|h;·exact .inl h.1
 ·exact .inr (.inl h.1)
 ·exact .inr (.inr ⟨h.1,h.2.1,by omega⟩)
theorem E8.spec(c:O)(hp:E8.pre (c,())):E8.wp c λr=>r=E8.fn (c,()):=by
 have hv:AG c=true:=hp;have hl:=Bo.b (AG.lin hv);simp only[E8.wp,Fs.fn,E8.fn,CI];refine⟨⟨Bo.linB (AG.lin hv),show CF (-1)from⟨by decide,by decide⟩⟩,?_⟩;rcases AG.kind hv with h|h|h;·rw[h.1];rfl
 ·rw[h.1];exact⟨⟨by omega,by omega⟩,rfl⟩
 ·rw[h.1];simp only[show((2:Int)==0)=false from rfl,show((2:Int)==1)=false from rfl,ZF9];refine Lp.iter (c.2.1-1).toNat (λi y=>y=((i:Int)+1,(List.range i).map λ(r:Nat)=>((2,c.2.1,c.2.2.1,c.2.2.2-((r:Int)+1)):O))) (by simp) ?_;rintro i y hle rfl R hR;by_cases e:(i:Int)+1<c.2.1;·simp only[ZGB e,ZGC,ZGM,ZG4,ZGL,ZGS];refine⟨⟨by omega,by omega⟩,⟨by omega,by omega⟩,⟨by omega,by omega⟩,hR (by omega) _ ?_⟩;simp[ZIT]
  ·simp only[ZGF e,ZF9];have :i=(c.2.1-1).toNat:=by omega
   subst this;simp
theorem Vb(b:Bool):(Dd b).2=1∨(Dd b).2=-1:=by cases b<;>simp[Dd]
theorem rM(c:O):(Ae c).2=0∨(Ae c).2=1∨(Ae c).2=-1:=by
 unfold Ae Gk CU FS;split
 ·split;·exact .inr (Vb _)
  ·exact .inl rfl
 ·split
  ·split;·exact .inr (Vb _)
   ·exact .inl rfl
  ·split;·exact .inr (Vb _)
   ·split;·exact .inr (Vb _)
    ·exact .inl rfl
theorem ZCb(c:O):(Dj c).2.2=0∨(Dj c).2.2=3:=by
 unfold Dj;split;·exact .inr rfl
 ·exact .inl rfl
theorem qP{c:O}(h:AG c=true):(CI c).length≤512:=by
 unfold CI;rcases AG.kind h with h|h|h;·rw[ZGE h.1];simp
 ·rw[ZGA (by omega),ZGE h.1];simp
 ·rw[ZGA (by omega),ZGA (by omega)];simp;omega
theorem Zt{c:O}(h:AG c=true):∀o∈CI c,condB o:=by
 have hl:=Bo.b (AG.lin h);have RD:linB (IV c.2.2 (-1)):=by
  refine⟨by simp[IV];omega,λn hn=>?_,?_,?_⟩;·simp only[IV,ZGt]at hn;obtain⟨a,ha,rfl⟩:=hn;have :=hl.2.1 a ha;exact⟨by omega,by omega⟩
  ·simp only[IV];omega
  ·simp only[IV];omega
 have hb:∀n∈c.2.2.1,CF n:=λn hn=>by have :=hl.2.1 n hn;exact⟨by omega,by omega⟩
 intro o ho;unfold CI at ho;rcases AG.kind h with h|h|h;·rw[ZGE h.1]at ho;simp only[ZGT]at ho;subst ho;exact⟨.inl rfl,RD⟩
 ·rw[ZGA (by omega),ZGE h.1]at ho;simp only[ZGe,ZIc,ZJZ]at ho;rcases ho with rfl|rfl;·exact⟨.inl rfl,by simp only;omega,hb,by simp only;omega,by simp only;omega⟩
  ·exact⟨.inl rfl,RD⟩
 ·rw[ZGA (by omega),ZGA (by omega)]at ho;simp only[ZGt,ZH5]at ho;obtain⟨r,hr,rfl⟩:=ho;exact⟨.inr (.inr ⟨rfl,h.2.1,by simp only;omega⟩),by simp only;omega,hb,by simp only;omega,by simp only;omega⟩
theorem qH{n:Nat}{out:List O}{o:O}{out':List O}(h:G0 n out o=some out'):out'.length≤out.length+1:=by
 unfold G0 at h;split at h;·cases h
 ·split at h;·cases h;simp
  ·split at h;·cases h;omega
   ·cases h;simp
theorem TZ{α β:Type}{f:List β→α→Option (List β)}(hf:∀t x t',f t x=some t'→t'.length≤t.length+1):∀(l:List α)(a t:List β),l.foldlM f a=some t→t.length≤a.length+l.length|[],a,t,h=>by cases h;simp|x::l,a,t,h=>by rw[ZGc]at h;cases hx:f a x with|none=>rw[hx]at h;cases h|some b=>rw[hx]at h;have :=TZ hf l b t h;have :=hf a x b hx;simp only[ZGL];omega
theorem G7.spec(c:O):G7.wp c λr=>r=G7.fn (c,()):=by simp only[G7.wp,B8.fn,G7.fn,Cr,E8.fn,Ds.fn,ZGD];cases hv:AG c with|false=>simp|true=>
 simp only[ZGq,ZF9,ZIz,ZHM];have hl:=Bo.b (AG.lin hv);have C2:=qP hv;have D5:=Zt hv;refine⟨hv,?_⟩;refine Lp.foldO (CI c) U (G0 c.2.2.1.length) [] (by omega) (λi t R hi hi' hf ht hR hn=>?_) λt R ht=>?_
 ·have Dv:t.length≤512:=by have :=TZ (λ_ _ _ h=>qH h) _ _ _ ht;simp only[ZGP,ZGS]at this;omega
  have A4:=AV (d:=U) hi;simp only[ZGB hi',ZGD,ZGC];refine⟨⟨by omega,hi'⟩,D5 _ A4,?_⟩;unfold G0 at hR;rcases ZCb ((CI c).getD i U)with h0|h0
  ·simp only[h0,ZGb,ZF9,ZJy,ZI8,ZHM]at hR⊢;by_cases h1:0<(Dj ((CI c).getD i U)).2.1;·simp only[h1,ZHa]at hR;simp only[ZGB h1,ZGC,ZGL,ZGS];exact⟨⟨by omega,by omega,by omega,by omega⟩,⟨by omega,by omega⟩,hf,hR _ rfl⟩
   ·simp only[h1,ZHM]at hR;simp only[ZGF h1,ZF9];by_cases h2:(Dj ((CI c).getD i U)).2.1<0;·simp only[h2,ZHa]at hR;simp only[ZGB h2,ZGC];exact⟨hf,hR _ rfl⟩
    ·simp only[h2,ZHM]at hR;simp only[ZGF h2,ZF9,ZGL,ZGS];exact⟨⟨by omega,by omega⟩,hf,hR _ rfl⟩
  ·simp only[h0];rw[hn (by unfold G0;rw[ZGE (by rw[h0];decide)])];rfl
 ·simp only[ZGH,ZGQ,ZF9];rw[ht];simp only;by_cases h4:400<t.length;·rw[ZGE h4,ZGB (show(400:Int)<(t.length:Int)by omega)];rfl
  ·rw[ZGA h4,ZGF (show¬(400:Int)<(t.length:Int)by omega)];rfl
theorem Gg.spec(n:Int):Gg.wp n λr=>r=Gg.fn (n,()):=by simp[Gg.wp,Gg.fn]
theorem FO.spec(a b:Int):FO.wp a b λr=>r=FO.fn (a,b,()):=by
 simp only[FO.wp,Gg.fn,FO.fn,Dr,ZF9];by_cases h:a<b;·simp[h]
 ·by_cases h2:b<a<;>simp[h,h2]
theorem ZC3{l:List Int}{i:Nat}(h:∀j,j<i→l.getD j 0=0):Mm l=Mm (l.drop i):=by induction i generalizing l with|zero=>rfl|succ i ih=>cases l with|nil=>rfl|cons n l=>have h0:=h 0 (by omega);simp at h0;simp only[Mm,ZGE h0,ZIJ];exact ih λj hj=>by have :=h (j+1) (by omega);simpa using this
theorem IB.spec(l:List Int)(hl:l.length≤9223372036854775807):IB.wp l λr=>r=IB.fn (l,()):=by
 refine Lp.iter l.length (λi y=>y=(i:Int)∧∀j,j<i→l.getD j 0=0) ⟨rfl,λj hj=>absurd hj (by omega)⟩ ?_;rintro i y hle⟨rfl,hi⟩R hR;have hd:=ZC3 hi;by_cases e:i<l.length
 ·simp only[ZGB (show(i:Int)<(l.length:Int)by omega),ZGD,ZGC];refine⟨⟨by omega,by omega⟩,?_⟩;rw[ZG2 e]at hd;by_cases h0:l.getD i 0=0
  ·simp only[h0,ZGb,ZF9];refine⟨⟨by omega,by omega⟩,hR e _ ⟨by omega,λj hj=>?_⟩⟩;by_cases ej:j=i;·subst ej;exact h0
   ·exact hi j (by omega)
  ·simp only[bne_iff_ne.2 h0,ZGC];rw[A6 e]at h0⊢;simp only[Mm,ZGA h0]at hd;exact hd.symm
 ·have :i=l.length:=by omega
  subst this;simp only[ZGH,ZGQ,ZF9];rw[ZHN]at hd;exact hd.symm
theorem H5.spec(a b:List Int)(hl:a.length≤9223372036854775807):H5.wp a b λr=>r=H5.fn (a,b,()):=by
 refine Lp.iter a.length (λi y=>y=(i:Int)∧i≤b.length∧Bh a b=Bh (a.drop i) (b.drop i)) ⟨rfl,ZHu _,rfl⟩ ?_;rintro i y hle⟨rfl,lN,hd⟩R hR;have hfn:H5.fn (a,b,())=Bh a b:=rfl;rw[hfn];by_cases e:i<a.length
 ·simp only[ZGB (show(i:Int)<(a.length:Int)by omega),ZGD,ZGC,FO.fn];refine⟨⟨by omega,by omega⟩,?_⟩;rw[ZG2 e]at hd;by_cases hb:i<b.length
  ·rw[ZGF (show¬(b.length:Int)≤(i:Int)by omega)];rw[ZG2 hb]at hd;refine⟨⟨by omega,by omega⟩,?_⟩;rw[A6 e,A6 hb];simp only[Bh]at hd;by_cases hc:Dr a[i] b[i]=0;·rw[ZGE hc]at hd;rw[hc,ZGb];exact⟨⟨by omega,by omega⟩,hR e _ ⟨by omega,hb,hd⟩⟩
   ·rw[ZGA hc]at hd;rw[bne_iff_ne.2 hc];exact hd.symm
  ·rw[ZGB (show(b.length:Int)≤(i:Int)by omega)];rw[ZJW (show b.length≤i by omega)]at hd;exact hd.symm
 ·have :i=a.length:=by omega
  subst this;simp only[ZGH,ZGQ,ZF9];rw[ZHN]at hd;by_cases hb:a.length<b.length;·rw[ZGB (show(a.length:Int)<(b.length:Int)by omega)];rw[ZG2 hb]at hd;exact hd.symm
  ·rw[ZGF (show¬(a.length:Int)<(b.length:Int)by omega)];rw[ZJW (show b.length≤a.length by omega)]at hd;exact hd.symm
theorem D1.spec(a b:O)(hp:D1.pre (a,b,())):D1.wp a b λr=>r=D1.fn (a,b,()):=by obtain⟨ha,hb⟩:=hp;obtain⟨ka,ma,ca⟩:=a;obtain⟨kb,mb,cb⟩:=b;simp only[D1.wp,D1.fn,EE,IB.fn,FO.fn,H5.fn];rcases ha with h|h|h<;>rcases hb with h'|h'|h'<;>(simp only at h h';subst h h';simp[C8])
theorem Hi.spec(c:O):Hi.wp c λr=>r=Hi.fn (c,()):=rfl
theorem Ec.spec(a b:O)(hp:Ec.pre (a,b,())):Ec.wp a b λr=>r=Ec.fn (a,b,()):=⟨hp,rfl⟩
theorem ZB3{α:Type}{f:α→Bool}{l:List α}{d:α}{i:Nat}(h:∀j,j<i→f (l.getD j d)=false)(hi:i≤l.length)(k:Int):I1 f l k=I1 f (l.drop i) (k+i):=by induction i generalizing l k with|zero=>simp|succ i ih=>cases l with|nil=>simp at hi|cons x l=>have h0:=h 0 (by omega);simp at h0;simp only[I1,h0,ZGh,ZHM,ZIJ];rw[ih (λj hj=>by have :=h (j+1) (by omega);simpa using this) (by simpa using hi)];congr 1;omega
theorem Gd.spec(l:List O)(f:(O→Prop)×(O→Bool))(hl:l.length≤9223372036854775807)(hp:Gd.pre (l,f,())):Gd.wp l f λr=>r=Gd.fn (l,f,()):=by
 refine Lp.iter l.length (λi y=>y=(i:Int)∧∀j,j<i→f.2 (l.getD j U)=false) ⟨rfl,λj hj=>absurd hj (by omega)⟩ ?_;rintro i y hle⟨rfl,hi⟩R hR;have hd:=ZB3 hi hle 0;have hfn:Gd.fn (l,f,())=I1 f.2 l 0:=rfl;rw[hfn];by_cases e:i<l.length;·simp only[ZGB (show(i:Int)<(l.length:Int)by omega),ZGD,ZGC];refine⟨⟨by omega,by omega⟩,hp _ (AV e),?_⟩;rw[ZG2 e]at hd;cases h0:f.2 (l.getD i U)with|true=>rw[A6 e]at h0;simp only[I1,h0,ZHa]at hd;show(i:Int)=_;omega|false=>
  refine⟨⟨by omega,by omega⟩,hR e _ ⟨by omega,λj hj=>?_⟩⟩;by_cases ej:j=i;·subst ej;exact h0
  ·exact hi j (by omega)
 ·have :i=l.length:=by omega
  subst this;simp only[ZGH,ZGQ,ZF9];rw[ZHN]at hd;exact hd.symm
theorem nG{α:Type}{f:α→Bool}:∀{l:List α}{k:Int},0≤k→decide (0≤I1 f l k)=l.any f
 |[],k,_=>by simp[I1]|x::l,k,hk=>by
  simp only[ZJ3];by_cases h:f x=true;·simp[I1,h,hk]
  ·rw[show I1 f (x::l) k=I1 f l (k+1)by simp[I1,h],nG (by omega)];simp[h]
theorem Ey.spec(l:List O)(f:(O→Prop)×(O→Bool))(hp:Ey.pre (l,f,())):Ey.wp l f λr=>r=Ey.fn (l,f,()):=⟨hp,nG (ZH4 0)⟩
def CG(l:List Int)(s:Int):List Int:=l.flatMap λn=>Bt (s*n)++[44]
def DP(p:List O):List Int:=p.flatMap λc=>Bt c.1++[58]++Bt c.2.1++[58]++CG c.2.2.1 1++Bt c.2.2.2++[59]
abbrev Cb.fn(x:List Int×Int×Unit):ByteArray:=CP (CG x.1 x.2.1)
abbrev Cb.pre(x:List Int×Int×Unit):Prop:=x.1.length≤1048576∧D7 x.1∧(x.2.1=1∨x.2.1=-1)
abbrev A1.fn(x:List O×Unit):ByteArray:=CP (DP x.1)
def nameOk(p:List O):Prop:=p.length≤1048576∧∀c∈p,c.2.2.1.length≤4096∧D7 c.2.2.1∧D7 [c.1,c.2.1,c.2.2.2]
abbrev A1.pre(x:List O×Unit):Prop:=nameOk x.1
def GI(C:List Int)(out:List O):Option Nat:=out.findIdx? λd=>decide (d.1=0∧d.2.2.1=C)
def Dw(d:O)(k:Int):O:=(d.1,d.2.1,d.2.2.1,min d.2.2.2 k)
def GM(out:List O)(c:O):List O:=if c.1≠0 then out++[c]else match GI c.2.2.1 out with|some i=>out.set i (Dw (out.getD i U) c.2.2.2)|none=>out++[c]
def Cq(l:List O):List O:=l.foldl GM []
abbrev FL.fn(x:List O×Unit):List O:=Cq x.1
def oW(l:List O):Prop:=l.length≤1048576∧∀c∈l,c.2.2.1.length≤1048576∧D7 c.2.2.1
abbrev FL.pre(x:List O×Unit):Prop:=oW x.1
def A5(C:List Int):List Int:=C.map λn=>-n
def HR(C:List Int):List O→Nat→Option Nat|[],_=>none|d::l,i=>match HR C l (i+1)with|some j=>some j|none=>if d.1=0∧d.2.2.1=C then some i else none
def IX(l:List O)(st:List O×(Int→Option Bool))(ic:Nat×O):Option (List O×(Int→Option Bool)):=if(st.2 (ic.1:Int)).getD false then some st else match if ic.2.1≠0 then none else HR (A5 ic.2.2.2.1) l 0 with|none=>some (st.1++[ic.2],st.2)|some j=>if ic.2.2.2.2+(l.getD j U).2.2.2<0 then none else if ic.2.2.2.2+(l.getD j U).2.2.2=0 then some (st.1++[(Ae (1,0,ic.2.2.2)).1],Bu st.2 (j:Int) true)else some (st.1++[ic.2],st.2)
def Jj(l:List O):List (Nat×O):=(List.range l.length).map λi=>(i,l.getD i U)
def GV(l:List O):Option (List O):=((Jj l).foldlM (IX l) ([],λ_=>none)).map (·.1)
abbrev Ev.fn(x:List O×Unit):List O×Bool:=match GV x.1 with|none=>([],true)|some out=>(out,false)
abbrev Ev.pre(x:List O×Unit):Prop:=BN x.1
def FB(C:List Int)(l:List O):Option Int:=(l.reverse.find? λd=>decide (d.1=1∧d.2.2.1=C)).map (·.2.2.2)
def Iq(seen:List O)(c:O):Option (List O):=if c.1≠1 then some (seen++[c])else match FB c.2.2.1 seen with|some n=>if n≠c.2.2.2 then none else some (seen++[c])|none=>some (seen++[c])
def Ky(l:List O)(out:List O)(c:O):Option (List O):=if c.1≠0 then some (out++[c])else match FB c.2.2.1 l with|some n=>if c.2.2.2<n then none else some out|none=>match FB (A5 c.2.2.1) l with|some n=>if c.2.2.2+n<0 then none else some out|none=>some (out++[c])
def Gc(l:List O):Option (List O):=match l.foldlM Iq []with|none=>none|some _=>l.foldlM (Ky l) []
def EL(c:O):List O→List O|[]=>[c]|d::l=>if EE d c<0 then d::EL c l else if d=c then d::l else c::d::l
def BB(l:List O):List O:=l.foldl (λout c=>EL c out) []
def Af(p:List O):List O×Bool×Int:=if(p.map Ae).any λr=>decide (r.2<0)then([],true,0)else let l:=((p.map Ae).filter λr=>decide (r.2=0)).map (·.1);match(GV (Cq l)).bind Gc with|none=>([],true,0)|some out=>if l.any (λc=>!AG c)||decide (96<(BB out).length)then([],false,3)else(BB out,false,0)
abbrev AD.fn(x:List O×Unit):List O×Bool×Int:=Af x.1
abbrev AD.pre(x:List O×Unit):Prop:=BN x.1
theorem We:∀(u:Nat),∀b∈Lib.decDigits u,48≤b.toNat∧b.toNat≤57:=by intro u;induction u using Nat.strongRecOn with|_ u ih=>
 intro b hb;rw[Lib.decDigits]at hb;split at hb;·rename_i h;simp only[ZGT]at hb;subst hb;simp;omega
 ·rename_i h;rcases List.mem_append.1 hb with hb|hb;·exact ih (u/10) (by omega) b hb
  ·simp only[ZGT]at hb;subst hb;simp;omega
def cG(l:List UInt8):Nat:=l.foldl (λa b=>a*10+(b.toNat-48)) 0
theorem uG(u:Nat):cG (Lib.decDigits u)=u:=by induction u using Nat.strongRecOn with|_ u ih=>
 rw[Lib.decDigits];split;·rename_i h;simp[cG];omega
 ·rename_i h;have :=ih (u/10) (by omega);unfold cG at this⊢;rw[ZHC,this];simp;omega
theorem gG{u v:Nat}(h:Lib.decDigits u=Lib.decDigits v):u=v:=by rw[←uG u,←uG v,h]
theorem ZCI(n:Int):∀b∈Lib.itoa n,b.toNat=45∨48≤b.toNat∧b.toNat≤57:=by
 intro b hb;unfold Lib.itoa at hb;split at hb
 ·rcases List.mem_cons.1 hb with rfl|hb;·exact .inl rfl
  ·exact .inr (We _ b hb)
 ·exact .inr (We _ b hb)
theorem ZCH{n m:Int}(h:Lib.itoa n=Lib.itoa m):n=m:=by
 have key:∀u v:Nat,(45:UInt8)::Lib.decDigits u≠Lib.decDigits v:=λu v e=>by have :=We v 45 (by rw[←e];simp);simp at this
 unfold Lib.itoa at h;split at h<;>split at h;·have :=gG (ZIk h).2;omega
 ·exact absurd h (key _ _)
 ·exact absurd h.symm (key _ _)
 ·have :=gG h;omega
theorem Uc{n m:Int}(h:Bt n=Bt m):n=m:=by refine ZCH (List.map_inj_right (f:=λb:UInt8=>(b.toNat:Int)) (λa b e=>?_)|>.1 h);exact UInt8.toNat_inj.1 (Int.ofNat_inj.1 e)
theorem Nz(n:Int):∀b∈Bt n,b=45∨48≤b∧b≤57:=by intro b hb;simp only[Bt,ZGt]at hb;obtain⟨c,hc,rfl⟩:=hb;have :=ZCI n c hc;omega
theorem MX{n:Int}(h:-9223372036854775807≤n)(h2:n≤9223372036854775807):(Bt n).length≤21:=by simp only[Bt,ZGM];exact Lib.itoa_length_le n (by omega) h2
theorem SO{s:Int}:∀{a a' r r':List Int},s∉a→s∉a'→a++s::r=a'++s::r'→a=a'∧r=r'|[],[],r,r',_,_,h=>⟨rfl,(ZIk h).2⟩|[],x::a',r,r',_,h2,h=>by have :=(ZIk h).1;exact absurd (by rw[this];simp) h2|x::a,[],r,r',h1,_,h=>by have :=(ZIk h).1;exact absurd (by rw[←this];simp) h1|x::a,y::a',r,r',h1,h2,h=>by obtain⟨e,h⟩:=ZIk h;simp only[ZGe,ZGx]at h1 h2;obtain⟨e1,e2⟩:=SO h1.2 h2.2 h;exact⟨by rw[e,e1],e2⟩
theorem Uz(n:Int):(44:Int)∉Bt n:=λh=>by have :=Nz n _ h;omega
theorem Ra(n:Int)(l:List Int)(s:Int):CG (n::l) s=Bt (s*n)++44::CG l s:=by simp[CG]
theorem ZK:∀{l l':List Int}{s s':Int}{r r':List Int},(44:Int)∉r→(44:Int)∉r'→CG l s++r=CG l' s'++r'→l.map (s*·)=l'.map (s'*·)∧r=r'|[],[],s,s',r,r',_,_,h=>⟨rfl,h⟩|[],n::l',s,s',r,r',h1,_,h=>by rw[Ra]at h;exact absurd (by rw[show r=_ from h];simp) h1|n::l,[],s,s',r,r',_,h2,h=>by rw[Ra]at h;exact absurd (by rw[show r'=_ from h.symm];simp) h2|n::l,m::l',s,s',r,r',h1,h2,h=>by rw[Ra,Ra,ZGy,ZGy,ZHb,ZHb]at h;obtain⟨e1,e2⟩:=SO (Uz _) (Uz _) h;obtain⟨e3,e4⟩:=ZK h1 h2 e2;exact⟨by rw[ZGi,ZGi,Uc e1,e3],e4⟩
theorem Ue(l:List Int)(s:Int):∀b∈CG l s,44≤b∧b≤57:=by
 intro b hb;simp only[CG,ZJY,ZGa,ZGT]at hb;obtain⟨n,_,hb|rfl⟩:=hb;·have :=Nz _ b hb;omega
 ·omega
theorem eH:∀{l l':List Int},(∀b∈l,0≤b∧b≤255)→(∀b∈l',0≤b∧b≤255)→l.map (λn=>UInt8.ofNat n.toNat)=l'.map (λn=>UInt8.ofNat n.toNat)→l=l'
 |[],[],_,_,_=>rfl|[],_::_,_,_,h=>by simp at h|_::_,[],_,_,h=>by simp at h|a::l,b::l',h1,h2,h=>by
  simp only[ZGi,ZIh]at h;have h3:=h1 a (by simp);have h4:=h2 b (by simp);have e:=ZGr UInt8.toNat h.1;simp at e;have :a=b:=by omega
  rw[this,eH (λc hc=>h1 c (by simp[hc])) (λc hc=>h2 c (by simp[hc])) h.2]
theorem tF{l l':List Int}(h1:∀b∈l,0≤b∧b≤255)(h2:∀b∈l',0≤b∧b≤255)(h:CP l=CP l'):l=l':=by refine eH h1 h2 ?_;have :=ZGr (λx:ByteArray=>x.data.toList) h;simpa[CP]using this
theorem ZEW{l:List Int}(h:∀b∈l,0≤b∧b≤255):Kz (CP l)=l:=by
 simp only[Kz,CP,ZHP];conv=>rhs;rw[←ZJK l]
 refine ZHA λb hb=>?_;have :=h b hb;simp;omega
theorem Pd(l:List Int):l.map ((1:Int)*·)=l:=by
 conv=>rhs;rw[←ZJK l]
 exact ZHA λn _=>by simp
theorem ZCd(l:List Int):l.map ((-1:Int)*·)=A5 l:=ZHA λn _=>by omega
theorem oC{C C':List Int}{s s':Int}:CP (CG C s)=CP (CG C' s')↔C.map (s*·)=C'.map (s'*·):=by
 have hb:∀(l:List Int)(s:Int),∀b∈CG l s,0≤b∧b≤255:=λl s b hb=>by have :=Ue l s b hb;omega
 constructor;·intro h;have :=tF (hb _ _) (hb _ _) h;exact(ZK (r:=[]) (r':=[]) (by simp) (by simp) (by simpa using this)).1
 ·intro h;have :∀(l:List Int)(s:Int),CG l s=(l.map (s*·)).flatMap λn=>Bt n++[44]:=λl s=>by simp[CG,ZKC]
  rw[this,this,h]
theorem ZL{C C':List Int}:CP (CG C 1)=CP (CG C' 1)↔C=C':=by rw[oC,Pd,Pd]
theorem oD{C C':List Int}:CP (CG C (-1))=CP (CG C' 1)↔A5 C=C':=by rw[oC,Pd,ZCd]
theorem Rl(c:O)(p:List O):DP (c::p)=Bt c.1++58::(Bt c.2.1++58::( CG c.2.2.1 1++Bt c.2.2.2++59::DP p)):=by simp[DP]
theorem pW:∀{p q:List O},DP p=DP q→p=q
 |[],[],_=>rfl|[],c::q,h=>by rw[Rl]at h;simp[DP]at h|c::p,[],h=>by rw[Rl]at h;simp[DP]at h|c::p,d::q,h=>by
  rw[Rl,Rl]at h;have n58:∀n,(58:Int)∉Bt n:=λn h=>by have :=Nz n _ h;omega
  have n59:∀C K,(59:Int)∉CG C 1++Bt K:=λC K h=>by
   rcases List.mem_append.1 h with h|h;·have :=Ue _ _ _ h;omega
   ·have :=Nz _ _ h;omega
  obtain⟨e1,h⟩:=SO (n58 _) (n58 _) h;obtain⟨e2,h⟩:=SO (n58 _) (n58 _) h;obtain⟨e3,h⟩:=SO (n59 _ _) (n59 _ _) h;obtain⟨e4,e5⟩:=ZK (Uz _) (Uz _) e3;rw[Pd,Pd]at e4;have ih:=pW h;rw[ih,ZIU (Uc e1) (ZIU (Uc e2) (ZIU e4 (Uc e5)))]
theorem qA(p:List O):∀b∈DP p,0≤b∧b≤255:=by
 intro b hb;simp only[DP,ZJY,ZGa,ZGT]at hb;obtain⟨c,_,hb⟩:=hb;rcases hb with(((((hb|rfl)|hb)|rfl)|hb)|hb)|rfl;·have :=Nz _ _ hb;omega
 ·omega
 ·have :=Nz _ _ hb;omega
 ·omega
 ·have :=Ue _ _ _ hb;omega
 ·have :=Nz _ _ hb;omega
 ·omega
theorem qB{p q:List O}:CP (DP p)=CP (DP q)↔p=q:=⟨λh=>pW (tF (qA p) (qA q) h),λh=>by rw[h]⟩
def Cb.wp(x0:List Int)(x1:Int)(Q:ByteArray→Prop):Prop:=let v2:=List.length [(44:Int)];Lp (σ:=Int×List Int) (λy3 R3=>let v0:=x0.getD y3.1.toNat 0;let v1:=List.length (y3.2++Bt (x1*v0));cond (decide (y3.1<x0.length)) ((0≤y3.1∧y3.1<x0.length)∧AA .i64 (x1*v0)∧OX (x1*v0) y3.2∧((v1+v2)*1≤140737488355328∧v1+v2≤9223372036854775807)∧AA .i64 (y3.1+1)∧R3 ( y3.1+1,y3.2++Bt (x1*v0)++[44])) (Q (CP y3.2))) (0,([]:List Int))
def A1.wp(x0:List O)(Q:ByteArray→Prop):Prop:=let v2:=List.length [(58:Int)];let v8:=List.length [(59:Int)];Lp (σ:=Int×List Int) (λy2 R2=>let v0:=x0.getD y2.1.toNat U;let v1:=List.length (y2.2++Bt v0.1);let v3:=List.length ( y2.2++Bt v0.1++[58]++Bt v0.2.1);let v4:=List.length ( y2.2++Bt v0.1++[58]++Bt v0.2.1++[58]);let v5:=Cb.fn (v0.2.2.1,(1,()));let v6:=List.length (Kz v5);let v7:=List.length ( y2.2++Bt v0.1++[58]++Bt v0.2.1++[58]++Kz v5++Bt v0.2.2.2);cond (decide (y2.1<x0.length)) ((0≤y2.1∧y2.1<x0.length)∧OX v0.1 y2.2∧((v1+v2)*1≤140737488355328∧v1+v2≤9223372036854775807)∧OX v0.2.1 ( y2.2++Bt v0.1++[58])∧((v3+v2)*1≤140737488355328∧v3+v2≤9223372036854775807)∧Cb.pre (v0.2.2.1,(1,()))∧((v4+v6)*1≤140737488355328∧v4+v6≤9223372036854775807)∧OX v0.2.2.2 ( y2.2++Bt v0.1++[58]++Bt v0.2.1++[58]++Kz v5)∧((v7+v8)*1≤140737488355328∧v7+v8≤9223372036854775807)∧AA .i64 (y2.1+1)∧R2 ( y2.1+1,y2.2++Bt v0.1++[58]++Bt v0.2.1++[58]++Kz v5++Bt v0.2.2.2++[59])) (Q (CP y2.2))) (0,([]:List Int))
def FL.wp(x0:List O)(Q:List O→Prop):Prop:=Lp (σ:=Int×List O×(ByteArray→Option Int)) (λy2 R2=>let v0:=x0.getD y2.1.toNat U;let v1:=Cb.fn (v0.2.2.1,(1,()));let v3:=Option.getD (y2.2.2 v1) 0;let v4:=y2.2.1.getD v3.toNat U;cond (decide (y2.1<x0.length)) ((0≤y2.1∧y2.1<x0.length)∧cond (v0.1 !=0) (((y2.2.1.length+List.length [v0])*48≤140737488355328∧y2.2.1.length+List.length [v0]≤9223372036854775807)∧AA .i64 (y2.1+1)∧R2 ( y2.1+1,( y2.2.1++[v0],y2.2.2))) (Cb.pre (v0.2.2.1,(1,()))∧cond (Option.isSome (y2.2.2 v1)) ((0≤v3∧v3<y2.2.1.length)∧Int.toNat v3<y2.2.1.length∧(0≤v3∧v3<y2.2.1.length)∧Int.toNat v3<y2.2.1.length∧AA .i64 (y2.1+1)∧R2 ( y2.1+1,( List.set y2.2.1 v3.toNat (v4.1,(v4.2.1,(v4.2.2.1,Min.min v4.2.2.2 v0.2.2.2))),y2.2.2))) (((y2.2.1.length+List.length [v0])*48≤140737488355328∧y2.2.1.length+List.length [v0]≤9223372036854775807)∧AA .i64 (y2.1+1)∧R2 ( y2.1+1,( y2.2.1++[v0],Bu y2.2.2 v1 y2.2.1.length))))) (Q y2.2.1)) (0,(([]:List O),λ(a2:ByteArray)=>(none:Option Int)))
def Ev.wp(x0:List O)(Q:List O×Bool→Prop):Prop:=Lp (σ:=Int×(ByteArray→Option Int)) (λy2 R2=>let v0:=x0.getD y2.1.toNat U;cond (decide (y2.1<x0.length)) ((0≤y2.1∧y2.1<x0.length)∧cond (v0.1==0) (Cb.pre (v0.2.2.1,(1,()))∧AA .i64 (y2.1+1)∧R2 ( y2.1+1,Bu y2.2 (Cb.fn (v0.2.2.1,(1,()))) y2.1)) (AA .i64 (y2.1+1)∧R2 ( y2.1+1,y2.2))) (Lp (σ:=Int×List O×(Int→Option Bool)) (λy4 R4=>let v3:=x0.getD y4.1.toNat U;let v4:=Cb.fn (v3.2.2.1,(-1,()));let v6:=Option.getD (y2.2 v4) 0;let v7:=x0.getD v6.toNat U;let v8:=Bv.fn ((1,(0,v3.2.2)),());cond (decide (y4.1<x0.length)) ((0≤y4.1∧y4.1<x0.length)∧cond (Option.getD (y4.2.2 y4.1) false) (AA .i64 (y4.1+1)∧R4 ( y4.1+1,y4.2)) (Cb.pre (v3.2.2.1,(-1,()))∧((! v3.1 !=0)=true→(! v3.1 !=0)=true∧True)∧((v3.1 !=0)=false→! v3.1 !=0=true)∧cond ( v3.1 !=0||! Option.isSome (y2.2 v4)) (((y4.2.1.length+List.length [v3])*48≤140737488355328∧y4.2.1.length+List.length [v3]≤9223372036854775807)∧AA .i64 (y4.1+1)∧R4 ( y4.1+1,( y4.2.1++[v3],y4.2.2))) ((0≤v6∧v6<x0.length)∧AA .i64 (v3.2.2.2+v7.2.2.2)∧cond (decide ( v3.2.2.2+v7.2.2.2<0)) (Q (([]:List O),true)) (cond ( v3.2.2.2+v7.2.2.2==0) (Bv.pre ((1,(0,v3.2.2)),())∧((y4.2.1.length+List.length [v8.1])*48≤140737488355328∧y4.2.1.length+List.length [v8.1]≤9223372036854775807)∧AA .i64 (y4.1+1)∧R4 ( y4.1+1,( y4.2.1++[v8.1],Bu y4.2.2 v6 true))) (((y4.2.1.length+List.length [v3])*48≤140737488355328∧y4.2.1.length+List.length [v3]≤9223372036854775807)∧AA .i64 (y4.1+1)∧R4 ( y4.1+1,( y4.2.1++[v3],y4.2.2))))))) (Q (y4.2.1,false))) (0,(([]:List O),λ(a4:Int)=>(none:Option Bool))))) (0,λ(a2:ByteArray)=>(none:Option Int))
def AD.wp(x0:List O)(Q:List O×Bool×Int→Prop):Prop:=Lp (σ:=Int×List O) (λy2 R2=>let v0:=x0.getD y2.1.toNat U;let v1:=[(((Bv.fn (v0,())).1).1,((((Bv.fn (v0,())).1).2).1,(((Bv.fn (v0,())).1).2).2))];let v2:=Ev.fn (FL.fn (y2.2,()),());let v14:=Ey.fn (y2.2,((λ(a9:O)=>True,λ(a9:O)=>Hi.fn (a9,())),()));let v28:=Ey.fn (y2.2,((λ(a13:O)=>True,λ(a13:O)=>Hi.fn (a13,())),()));let v31:=Ey.fn (y2.2,((λ(a11:O)=>True,λ(a11:O)=>Hi.fn (a11,())),()));cond (decide (y2.1<x0.length)) ((0≤y2.1∧y2.1<x0.length)∧Bv.pre (v0,())∧cond (decide ((Bv.fn (v0,())).2<0)) (Q (([]:List O),(true,0))) (cond ((Bv.fn (v0,())).2==0) (((y2.2.length+v1.length)*48≤140737488355328∧y2.2.length+v1.length≤9223372036854775807)∧AA .i64 (y2.1+1)∧R2 ( y2.1+1,y2.2++v1)) (AA .i64 (y2.1+1)∧R2 ( y2.1+1,y2.2)))) (Ey.pre (y2.2,((λ(a4:O)=>True,λ(a4:O)=>Hi.fn (a4,())),()))∧FL.pre (y2.2,())∧Ev.pre (FL.fn (y2.2,()),())∧cond v2.2 (Q (([]:List O),(true,0))) (Lp (σ:=Int×(ByteArray→Option Int)) (λy4 R4=>let v3:=v2.1.getD y4.1.toNat U;let v4:=Cb.fn (v3.2.2.1,(1,()));let v5:=Option.isSome (y4.2 v4);cond (decide (y4.1<v2.1.length)) ((0≤y4.1∧y4.1<v2.1.length)∧cond (v3.1 !=1) (AA .i64 (y4.1+1)∧R4 ( y4.1+1,y4.2)) (Cb.pre (v3.2.2.1,(1,()))∧(v5=true→v5=true∧True)∧(v5=true→v5=true∧True)∧(v5=true→v5=true∧v5=true∧True)∧(v5=true→v5=true)∧cond (v5&&Option.getD (y4.2 v4) 0 !=v3.2.2.2) (Q (([]:List O),(true,0))) (AA .i64 (y4.1+1)∧R4 ( y4.1+1,Bu y4.2 v4 v3.2.2.2)))) (Lp (σ:=Int×List O) (λy6 R6=>let v7:=v2.1.getD y6.1.toNat U;let v8:=Cb.fn (v7.2.2.1,(1,()));let v11:=Cb.fn (v7.2.2.1,(-1,()));let v13:=Option.getD (y4.2 v11) 0;cond (decide (y6.1<v2.1.length)) ((0≤y6.1∧y6.1<v2.1.length)∧cond (v7.1==0) (Cb.pre (v7.2.2.1,(1,()))∧cond (Option.isSome (y4.2 v8)) (cond (decide (v7.2.2.2<Option.getD (y4.2 v8) 0)) (Q (([]:List O),(true,0))) (AA .i64 (y6.1+1)∧R6 ( y6.1+1,y6.2))) (Cb.pre (v7.2.2.1,(-1,()))∧cond (Option.isSome (y4.2 v11)) (AA .i64 (v7.2.2.2+v13)∧cond (decide ( v7.2.2.2+v13<0)) (Q (([]:List O),(true,0))) (AA .i64 (y6.1+1)∧R6 ( y6.1+1,y6.2))) (((y6.2.length+List.length [v7])*48≤140737488355328∧y6.2.length+List.length [v7]≤9223372036854775807)∧AA .i64 (y6.1+1)∧R6 ( y6.1+1,y6.2++[v7])))) (((y6.2.length+List.length [v7])*48≤140737488355328∧y6.2.length+List.length [v7]≤9223372036854775807)∧AA .i64 (y6.1+1)∧R6 ( y6.1+1,y6.2++[v7]))) (bN (λ(a8:O)=>λ(a9:O)=>D1.pre (a8,(a9,()))) y6.2∧∀b8:List O,List.Perm y6.2 b8∧Px (λ(a9:O)=>λ(a10:O)=>D1.fn (a9,(a10,()))) b8→cond (decide ((b8.length:Int)<2)) (((!v14)=true→(!v14)=true∧True)∧((!v14)=true→(!v14)=true∧True)∧(v14=false→(!v14)=true)∧cond (v14||decide (96<(b8.length:Int))) (Q (([]:List O),(false,3))) (Q (b8,(false,0)))) (Lp (λy9 R9=>let v15:=Int.toNat (y9-1);let v16:=b8.getD y9.toNat U;let v17:=b8.getD v15 U;cond (decide (y9<b8.length)) ((0≤y9∧y9<b8.length)∧Int.toNat y9<b8.length∧AA .i64 (y9-1)∧(0≤y9-1∧y9-1<b8.length)∧v15<b8.length∧Ec.pre (v16,(v17,()))∧cond (Ec.fn (v16,(v17,()))) ((0≤y9∧y9≤b8.length)∧Lp (σ:=Int×Int×List O) (λy11 R11=>let v19:=Int.toNat (y11.1-1);let v20:=y11.2.2.getD ( 0+Int.toNat y9+Int.toNat y11.1) U;let v21:=y11.2.2.getD ( 0+Int.toNat y9+v19) U;let v24:=List.take (0+Int.toNat y11.2.1) y11.2.2;let v25:=List.replicate (y11.2.2.length-Int.toNat y11.2.1) U;let v26:=List.drop ( 0+Int.toNat y11.2.1+(y11.2.2.length-Int.toNat y11.2.1)) y11.2.2;let v27:=List.length ( v24++v25++v26);let v30:=List.take y11.2.1.toNat (List.drop 0 ( v24++v25++v26));cond (decide (y11.1<(( b8.length-Int.toNat y9:Nat):Int))) ((0≤y11.1∧y11.1<(( b8.length-Int.toNat y9:Nat):Int)∧0+Int.toNat y9+(b8.length-Int.toNat y9)≤y11.2.2.length)∧0+Int.toNat y9+Int.toNat y11.1<y11.2.2.length∧AA .i64 (y11.1-1)∧(0≤y11.1-1∧y11.1-1<(( b8.length-Int.toNat y9:Nat):Int)∧0+Int.toNat y9+(b8.length-Int.toNat y9)≤y11.2.2.length)∧0+Int.toNat y9+v19<y11.2.2.length∧Ec.pre (v20,(v21,()))∧cond (! Ec.fn (v20,(v21,()))) ((0≤y11.1∧y11.1<(( b8.length-Int.toNat y9:Nat):Int)∧0+Int.toNat y9+(b8.length-Int.toNat y9)≤y11.2.2.length)∧0+Int.toNat y9+Int.toNat y11.1<y11.2.2.length∧(0≤y11.2.1∧y11.2.1<y11.2.2.length)∧Int.toNat y11.2.1<y11.2.2.length∧AA .i64 (y11.2.1+1)∧AA .i64 (y11.1+1)∧R11 ( y11.1+1,( y11.2.1+1,List.set y11.2.2 y11.2.1.toNat v20))) (AA .i64 (y11.1+1)∧R11 ( y11.1+1,y11.2))) ((0≤y11.2.1∧y11.2.1≤y11.2.2.length)∧0+Int.toNat y11.2.1+(y11.2.2.length-Int.toNat y11.2.1)≤y11.2.2.length∧(0≤y11.2.1∧y11.2.1≤((v27:Nat):Int))∧0+Int.toNat y11.2.1≤v27∧((!v28)=true→(!v28)=true∧True)∧((!v28)=true→(!v28)=true∧True)∧(v28=false→(!v28)=true)∧cond (v28||decide (96<(v30.length:Int))) (Q (([]:List O),(false,3))) (Q (v30,(false,0))))) (1,(y9,b8))) (AA .i64 (y9+1)∧R9 (y9+1))) (((!v31)=true→(!v31)=true∧True)∧((!v31)=true→(!v31)=true∧True)∧(v31=false→(!v31)=true)∧cond (v31||decide (96<(b8.length:Int))) (Q (([]:List O),(false,3))) (Q (b8,(false,0))))) 1))) (0,([]:List O)))) (0,λ(a4:ByteArray)=>(none:Option Int))))) (0,([]:List O))
theorem xP(l:List Int)(s:Int):∀b∈CG l s,0≤b∧b≤255:=λb hb=>by have :=Ue l s b hb;omega
theorem ZEV(l:List Int)(s:Int):Kz (CP (CG l s))=CG l s:=ZEW (xP l s)
theorem ZCK(l:List Int)(n s:Int):CG (l++[n]) s=CG l s++Bt (s*n)++[44]:=by simp[CG]
theorem ZCo(p:List O)(c:O):DP (p++[c])=DP p++Bt c.1++[58]++Bt c.2.1++[58]++CG c.2.2.1 1++Bt c.2.2.2++[59]:=by simp[DP]
theorem Ud{s:Int}(hs:s=1∨s=-1):∀{l:List Int},D7 l→(CG l s).length≤22*l.length
 |[],_=>by simp[CG]|n::l,h=>by
  rw[Ra];have h1:=Ud hs (l:=l) λm hm=>h m (by simp[hm]);have h2:=h n (by simp);have h3:(Bt (s*n)).length≤21:=by rcases hs with rfl|rfl<;>exact MX (by omega) (by omega)
  simp only[ZGI,ZGL];omega
theorem pZ:∀{p:List O},(∀c∈p,c.2.2.1.length≤4096∧D7 c.2.2.1∧D7 [c.1,c.2.1,c.2.2.2])→(DP p).length≤90200*p.length|[],_=>by simp[DP]|c::p,h=>by rw[Rl];have h1:=pZ (p:=p) λm hm=>h m (by simp[hm]);obtain⟨h2,h3,h4⟩:=h c (by simp);have h5:=Ud (.inl rfl) h3;have a1:=MX (h4 c.1 (by simp)).1 (h4 c.1 (by simp)).2;have a2:=MX (h4 c.2.1 (by simp)).1 (h4 c.2.1 (by simp)).2;have a3:=MX (h4 c.2.2.2 (by simp)).1 (h4 c.2.2.2 (by simp)).2;simp only[ZGI,ZGL];omega
theorem ZCD{l:List Int}(i:Nat)(h:D7 l):D7 (l.take i):=λn hn=>h n (ZGl hn)
theorem Cb.spec(l:List Int)(s:Int)(hp:Cb.pre (l,s,())):Cb.wp l s λr=>r=Cb.fn (l,s,()):=by
 obtain⟨hl,hi,hs⟩:=hp;simp only at hl hi hs;have hfn:Cb.fn (l,s,())=CP (CG l s):=rfl;simp only[Cb.wp,hfn];refine Lp.iter l.length (λi y=>y=((i:Int),CG (l.take i) s)) (by simp[CG]) ?_;rintro i y hle rfl R hR;by_cases e:i<l.length
 ·have hk:=Ud hs (ZCD i hi);have hn:=hi _ (AV (d:=0) e);have Ab:(l.take i).length≤1048576:=by simp;omega
  have h3:(Bt (s*l.getD i 0)).length≤21:=by rcases hs with rfl|rfl<;>exact MX (by omega) (by omega)
  have hf:AA .i64 (s*l.getD i 0):=by show-9223372036854775808≤s*l.getD i 0∧s*l.getD i 0≤9223372036854775807;rcases hs with rfl|rfl<;>omega
  simp only[ZGB (show(i:Int)<(l.length:Int)by omega),ZGD,ZGC];refine⟨⟨by omega,by omega⟩,hf,⟨hf,by omega⟩,⟨?_,?_⟩,⟨by omega,by omega⟩,hR e _ ?_⟩;·simp only[ZGI,ZGL,ZGS];omega
  ·simp only[ZGI,ZGL,ZGS];omega
  ·rw[B0 0 e,ZCK];rfl
 ·have :i=l.length:=by omega
  subst this;simp only[ZGH,ZGQ,ZF9,ZGN]
theorem A1.spec(p:List O)(hp:A1.pre (p,())):A1.wp p λr=>r=A1.fn (p,()):=by
 obtain⟨hl,hi⟩:=hp;simp only at hl hi;have hfn:A1.fn (p,())=CP (DP p):=rfl;simp only[A1.wp,hfn,Cb.fn,ZEV];refine Lp.iter p.length (λi y=>y=((i:Int),DP (p.take i))) (by simp[DP]) ?_;rintro i y hle rfl R hR;by_cases e:i<p.length
 ·have hk:=pZ (p:=p.take i) λc hc=>hi c (ZGl hc);obtain⟨h2,h3,h4⟩:=hi _ (AV (d:=U) e);have h5:=Ud (.inl rfl) h3;have b1:=h4 (p.getD i U).1 (by simp);have b2:=h4 (p.getD i U).2.1 (by simp);have b3:=h4 (p.getD i U).2.2.2 (by simp);have a1:=MX b1.1 b1.2;have a2:=MX b2.1 b2.2;have a3:=MX b3.1 b3.2;have Ab:(p.take i).length≤1048576:=by simp;omega
  have hf:∀n:Int,-9223372036854775807≤n∧n≤9223372036854775807→AA .i64 n:=λn h=>⟨by omega,h.2⟩;simp only[ZGB (show(i:Int)<(p.length:Int)by omega),ZGD,ZGC];generalize hc:p.getD i U=c at*;generalize hA:DP (p.take i)=A at*;have g1:(A++Bt c.1).length≤A.length+21:=by simp only[ZGI];omega
  refine⟨⟨by omega,by omega⟩,⟨hf _ b1,by omega⟩,⟨?_,?_⟩,⟨hf _ b2,?_⟩,⟨?_,?_⟩,⟨(by omega:c.2.2.1.length≤1048576),h3,.inl rfl⟩,⟨?_,?_⟩,⟨hf _ b3,?_⟩,⟨?_,?_⟩,⟨by omega,by omega⟩,hR e _ ?_⟩;any_goals(simp only[ZGI,ZGL,ZGS];omega)
  rw[B0 U e,ZCo,hA,hc];rfl
 ·have :i=p.length:=by omega
  subst this;simp only[ZGH,ZGQ,ZF9,ZGN]
theorem ZB5{C:List Int}{out:List O}{c:O}(h:c.1≠0):GI C (out++[c])=GI C out:=by simp only[GI,ZKh];simp[h]
theorem ZB7{C:List Int}{out:List O}{c:O}(h:c.1=0):GI C (out++[c])=(GI C out).or (if C=c.2.2.1 then some out.length else none):=by
 simp only[GI,ZKh];by_cases h2:C=c.2.2.1;·simp[h,h2]
 ·rw[ZGA h2];simp[h,show¬c.2.2.1=C from λe=>h2 e.symm]
theorem nH(C:List Int)(out:List O):GI C out=(out.map λd=>(d.1,d.2.2.1)).findIdx? λd=>decide (d.1=0∧d.2=C):=by simp only[GI,List.findIdx?_map];rfl
theorem ZB6{C:List Int}{out:List O}{i:Nat}{x:O}(h:x.1=(out.getD i U).1)(h2:x.2.2.1=(out.getD i U).2.2.1):GI C (out.set i x)=GI C out:=by
 by_cases e:i<out.length
 ·rw[nH,nH,List.map_set,h,h2,A6 e];congr 1;have :((out[i].1,out[i].2.2.1):Int×List Int)=(out.map λd=>(d.1,d.2.2.1))[i]'(by simpa using e):=by simp
  rw[this,List.set_getElem_self]
 ·rw[List.set_eq_of_length_le (by omega)]
theorem Y9{C:List Int}{out:List O}{i:Nat}(h:GI C out=some i):∃hi:i<out.length,out[i].1=0∧out[i].2.2.1=C:=by obtain⟨hi,h1,_⟩:=List.findIdx?_eq_some_iff_getElem.1 h;exact⟨hi,by simpa using h1⟩
theorem ZCU(out:List O)(c:O):(GM out c).length≤out.length+1:=by
 unfold GM;split;·simp
 ·split<;>simp
theorem ZT:∀(l out:List O),(l.foldl GM out).length≤out.length+l.length|[],out=>by simp|c::l,out=>by have :=ZT l (GM out c);have :=ZCU out c;simp only[ZG3,ZGL];omega
def vW(out:List O)(m:ByteArray→Option Int):Prop:=∀C,m (CP (CG C 1))=(GI C out).map λ(i:Nat)=>(i:Int)
theorem FL.spec(l:List O)(hp:FL.pre (l,())):FL.wp l λr=>r=FL.fn (l,()):=by
 obtain⟨hl,hi⟩:=hp;simp only at hl hi;have hfn:FL.fn (l,())=Cq l:=rfl;simp only[FL.wp,hfn,Cb.fn];refine Lp.iter l.length (λi y=>y.1=(i:Int)∧y.2.1=Cq (l.take i)∧vW y.2.1 y.2.2) ⟨rfl,by simp[Cq],λC=>by simp[GI]⟩ ?_;rintro i⟨y,out,m⟩hle⟨hy,ho,hm⟩R hR;simp only at hy ho hm;subst hy;by_cases e:i<l.length
 ·have hlen:=ZT (l.take i) [];have Ab:(l.take i).length≤1048576:=by simp;omega
  rw[show(l.take i).foldl GM []=out from ho.symm]at hlen;simp only[ZGS]at hlen;have BO:Cq (l.take (i+1))=GM out (l.getD i U):=by rw[B0 U e,Cq,ZHC,ho];rfl
  obtain⟨It,Kd⟩:=hi _ (AV (d:=U) e);simp only[ZGB (show(i:Int)<(l.length:Int)by omega),ZGD,ZGC];generalize l.getD i U=c at*;refine⟨⟨by omega,by omega⟩,?_⟩;by_cases hk:c.1=0;·rw[hk];simp only[ZGb,ZF9];refine⟨⟨It,Kd,.inl rfl⟩,?_⟩;have UC:=hm c.2.2.1;cases hg:GI c.2.2.1 out with
   |none=>
    rw[hg]at UC;simp only[UC,Option.map_none,ZIg,ZF9];refine⟨⟨by simp;omega,by simp;omega⟩,⟨by omega,by omega⟩,hR e _ ⟨by simp,?_,?_⟩⟩;·simp only[BO,GM,hk,hg];rfl
    ·intro C;simp only[Bu,ZL];rw[ZB7 hk];by_cases hC:C=c.2.2.1;·rw[ZGE hC,ZGE hC,hC,hg];rfl
     ·rw[ZGA hC,ZGA hC,hm C];simp|some j=>
    rw[hg]at UC;obtain⟨hj,h1,h2⟩:=Y9 hg;simp only[UC,ZJm,ZI2,ZGC,ZIe,ZGD];have hgj:=A6 (d:=U) hj;refine⟨⟨by omega,by omega⟩,hj,⟨by omega,by omega⟩,hj,⟨by omega,by omega⟩,hR e _ ⟨by simp,?_,?_⟩⟩;·simp only[BO,GM,hk,hg];rfl
    ·intro C;exact(hm C).trans (ZGr _ (ZB6 (C:=C) (out:=out) (i:=j) (x:=Dw (out.getD j U) c.2.2.2) rfl rfl).symm)
  ·rw[bne_iff_ne.2 hk];simp only[ZGC];refine⟨⟨by simp;omega,by simp;omega⟩,⟨by omega,by omega⟩,hR e _ ⟨by simp,?_,?_⟩⟩;·simp only[BO,GM,ZGE hk]
   ·intro C;exact(hm C).trans (ZGr _ (ZB5 hk).symm)
 ·have :i=l.length:=by omega
  subst this;simp only[ZGH,ZGQ,ZF9,ho,ZGN]
theorem ZN(C:List Int)(c:O):∀(l:List O)(k:Nat),HR C (l++[c]) k=if c.1=0∧c.2.2.1=C then some (k+l.length)else HR C l k
 |[],k=>by simp only[ZG8,HR,ZGS,ZHw]|d::l,k=>by
  simp only[ZHb,HR,ZN C c l (k+1),ZGL];by_cases h:c.1=0∧c.2.2.1=C;·simp only[ZGE h];congr 1;omega
  ·simp only[ZGA h]
theorem ZO{C:List Int}:∀{l:List O}{k j:Nat},HR C l k=some j→k≤j∧∃h:j-k<l.length,l[j-k].1=0∧l[j-k].2.2.1=C|[],k,j,h=>by cases h|d::l,k,j,h=>by simp only[HR]at h;cases h1:HR C l (k+1)with
 |some i=>
  rw[h1]at h;cases h;obtain⟨h2,h3,h4⟩:=ZO h1;have e:j-k=j-(k+1)+1:=by omega
  refine⟨by omega,by simp;omega,?_⟩;simp only[e,List.getElem_cons_succ];exact h4|none=>
  rw[h1]at h;simp only at h;split at h;·rename_i h2;cases h;refine⟨ZGR _,by simp,?_⟩;simp only[ZIr,List.getElem_cons_zero];exact h2
  ·cases h
theorem ZDA{l:List O}{st st':List O×(Int→Option Bool)}{ic:Nat×O}(h:IX l st ic=some st'):st'.1.length≤st.1.length+1:=by
 unfold IX at h;split at h;·cases h;omega
 ·split at h;·cases h;simp
  ·split at h;·cases h
   ·split at h<;>(cases h;simp)
theorem Z0{l:List O}:∀{m:List (Nat×O)}{st st':List O×(Int→Option Bool)},m.foldlM (IX l) st=some st'→st'.1.length≤st.1.length+m.length|[],st,st',h=>by cases h;simp|x::m,st,st',h=>by simp only[ZGc,ZGv,ZGs]at h;obtain⟨s,h1,h2⟩:=h;have :=ZDA h1;have :=Z0 h2;simp only[ZGL];omega
theorem Mz(l:List O):(Jj l).length=l.length:=by simp[Jj]
theorem uM{l:List O}{i:Nat}(h:i<l.length):(Jj l).getD i (0,U)=(i,l.getD i U):=by rw[A6 (by rw[Mz];exact h)];simp[Jj]
theorem Mf{l:AN}(h:linB l):D7 l.1:=λn hn=>by have :=h.2.1 n hn;unfold CF at this;omega
theorem Ev.spec(l:List O)(hp:Ev.pre (l,())):Ev.wp l λr=>r=Ev.fn (l,()):=by
 obtain⟨hl,hi⟩:=hp;simp only at hl hi;simp only[Ev.wp,Cb.fn];refine Lp.iter l.length (λi y=>y.1=(i:Int)∧∀C,y.2 (CP (CG C 1))=(HR C (l.take i) 0).map λ(i:Nat)=>(i:Int)) ⟨rfl,λC=>rfl⟩ ?_;rintro i⟨y,m⟩hle⟨hy,hm⟩R hR;simp only at hy hm;subst hy;by_cases e:i<l.length
 ·obtain⟨IK,hb⟩:=hi _ (AV (d:=U) e);simp only[ZGB (show(i:Int)<(l.length:Int)by omega),ZGD,ZGC];refine⟨⟨by omega,by omega⟩,?_⟩;have Bb:=B0 U e;generalize l.getD i U=c at*;by_cases hk:c.1=0
  ·simp only[hk,ZHE,ZGC];refine⟨⟨hb.1,Mf hb,.inl rfl⟩,⟨by omega,by omega⟩,hR e _ ⟨rfl,λC=>?_⟩⟩;rw[Bb,ZN];simp only[Bu,ZL];by_cases hC:C=c.2.2.1;·rw[ZGE hC,ZGE ⟨hk,hC.symm⟩];simp;omega
   ·rw[ZGA hC,ZGA λh=>hC h.2.symm];exact hm C
  ·rw[beq_eq_false_iff_ne.2 hk];simp only[ZF9];refine⟨⟨by omega,by omega⟩,hR e _ ⟨rfl,λC=>?_⟩⟩;rw[Bb,ZN,ZGA λh=>hk h.1];exact hm C
 clear hR;have MN:i=l.length:=by omega
 subst MN;simp only[ZGH,ZGQ,ZF9];rw[ZGN]at hm;have hfn:Ev.fn (l,())=(match((Jj l).foldlM (IX l) ([],λ_=>none)).map (·.1)with|none=>([],true)|some out=>(out,false)):=rfl;refine Lp.foldO (Jj l) (0,U) (IX l) ([],λ_=>none) (by rw[Mz];omega) ?_ ?_
 ·rintro i⟨out,gone⟩R e _ hf ht BC BJ;rw[Mz]at e;rw[uM e]at BC BJ;have hlen:=Z0 ht;simp only[ZGS,ZGP,Mz]at hlen;obtain⟨IK,hb⟩:=hi _ (AV (d:=U) e);simp only[ZGB (show(i:Int)<(l.length:Int)by omega),ZGD,ZGC];refine⟨⟨by omega,by omega⟩,?_⟩;have hat:∀j,j<l.length→l.getD j U∈l:=λj hj=>AV hj;simp only[IX]at BC BJ;by_cases hg:(gone (i:Int)).getD false=true;·simp only[hg,ZGC,ZHa]at BC⊢;exact⟨hf,BC _ rfl⟩
  rw[ZHs]at hg;simp only[hg,ZF9,ZGh,ZHM]at BC BJ⊢;refine⟨⟨hb.1,Mf hb,.inr rfl⟩,λh=>⟨h,trivial⟩,λh=>by rw[h];rfl,?_⟩;have hw:m (CP (CG (l.getD i U).2.2.1 (-1)))=(HR (A5 (l.getD i U).2.2.1) l 0).map λ(i:Nat)=>(i:Int):=by rw[←hm,oD.2 rfl]
  simp only[hw];by_cases hk:(l.getD i U).1=0;·simp only[hk,ZGb,ZHh,ZJy,ZI8,ZHM]at BC BJ⊢;cases hj:HR (A5 (l.getD i U).2.2.1) l 0 with|none=>rw[hj]at BC;simp only[Option.map_none,ZIg,ZGz,ZGC];exact⟨⟨by simp;omega,by simp;omega⟩,hf,BC _ rfl⟩|some j=>
   rw[hj]at BC BJ;obtain⟨_,Ix,hj2,hj3⟩:=ZO hj;simp only[ZIs]at Ix hj2 hj3;obtain⟨_,hb'⟩:=hi _ (hat j Ix);have q1:=hb.2.2;have q2:=hb'.2.2;unfold CF at q1 q2;simp only[ZJm,ZI2,ZGq,ZF9,ZIe,ZGD]at BC BJ⊢;refine⟨⟨by omega,by omega⟩,⟨by omega,by omega⟩,?_⟩;by_cases h1:(l.getD i U).2.2.2+(l.getD j U).2.2.2<0;·simp only[ZGB h1,ZGC];rw[hfn,BJ (by rw[ZGE h1])];rfl
   ·simp only[ZGF h1,ZF9];rw[ZGA h1]at BC;by_cases h2:(l.getD i U).2.2.2+(l.getD j U).2.2.2=0;·rw[ZGE h2]at BC;simp only[h2,ZHE,ZGC];exact⟨⟨.inr (.inl rfl),hb⟩,⟨by simp;omega,by simp;omega⟩,hf,BC _ rfl⟩
    ·rw[ZGA h2]at BC;rw[beq_eq_false_iff_ne.2 h2];simp only[ZF9];exact⟨⟨by simp;omega,by simp;omega⟩,hf,BC _ rfl⟩
  ·simp only[bne_iff_ne.2 hk,ZHp,ZGC,ZJy,hk,not_false_eq_true,ZHa]at BC⊢;exact⟨⟨by simp;omega,by simp;omega⟩,hf,BC _ rfl⟩
 ·rintro⟨out,gone⟩R ht;rw[Mz];simp only[ZGH,ZGQ,ZF9];rw[hfn,ht];rfl
def H9{α:Type}(f:α→α→Int):Prop:=(∀x y,f x y=-f y x)∧∀x y z,f x y≤0→f y z≤0→f x z≤0∧(f x z=0→f x y=0∧f y z=0)
theorem H9.zero{α:Type}{f:α→α→Int}(h:H9 f){x y z:α}(h1:f x y=0)(h2:f y z=0):f x z=0:=by have a:=(h.2 x y z (by omega) (by omega)).1;have b:=(h.2 z y x (by have :=h.1 z y;omega) (by have :=h.1 y x;omega)).1;have :=h.1 x z;omega
theorem H9.lex{α β:Type}{f:α→α→Int}{g:β→β→Int}(hf:H9 f)(hg:H9 g):H9 λx y:α×β=>if f x.1 y.1=0 then g x.2 y.2 else f x.1 y.1:=by
 refine⟨λx y=>?_,λx y z=>?_⟩;·have :=hf.1 x.1 y.1;have :=hg.1 x.2 y.2;simp only;split<;>split<;>omega
 ·have h1:=hf.2 x.1 y.1 z.1;have h2:=hg.2 x.2 y.2 z.2;have h3:=@H9.zero _ _ hf x.1 y.1 z.1;simp only;intro ha hb;split at ha<;>split at hb<;>split<;>(try split)<;>(try split)<;>omega
theorem H9.comap{α β:Type}{f:α→α→Int}(hf:H9 f)(g:β→α):H9 λx y=>f (g x) (g y):=⟨λx y=>hf.1 _ _,λx y z=>hf.2 _ _ _⟩
theorem Od:H9 Dr:=by
 refine⟨λx y=>?_,λx y z=>?_⟩
 ·unfold Dr;repeat' split
  all_goals omega
 ·unfold Dr;repeat' split
  all_goals omega
theorem oS:∀a b:List Int,Bh a b=-Bh b a|[],[]=>rfl|[],_::_=>rfl|_::_,[]=>rfl|x::a,y::b=>by have h1:=Od.1 x y;have h2:=oS a b;simp only[Bh];split<;>split<;>omega
theorem oU:∀a b c:List Int,Bh a b≤0→Bh b c≤0→Bh a c≤0∧(Bh a c=0→Bh a b=0∧Bh b c=0)|[],[],[]=>by simp[Bh]|[],[],_::_=>by simp[Bh]|[],_::_,[]=>by simp[Bh]|[],_::_,_::_=>by simp[Bh]|_::_,[],_=>by simp[Bh]|_::_,_::_,[]=>by simp[Bh]|x::a,y::b,z::c=>by have h1:=Od.2 x y z;have h2:=oU a b c;have h3:=@H9.zero _ _ Od x y z;simp only[Bh];intro ha hb;split at ha<;>split at hb<;>split<;>(try split)<;>(try split)<;>omega
theorem ZCW:H9 Bh:=⟨oS,oU⟩
theorem TB{a b:Int}(h:Dr a b=0):a=b:=by
 unfold Dr at h;split at h;·omega
 ·split at h<;>omega
theorem oT:∀{a b:List Int},Bh a b=0→a=b
 |[],[],_=>rfl|[],_::_,h=>by simp[Bh]at h|_::_,[],h=>by simp[Bh]at h|x::a,y::b,h=>by
  simp only[Bh]at h;split at h;·rename_i h1;rw[TB h1,oT h]
  ·rename_i h1;exact absurd h h1
theorem U6(a b:O):EE a b=if Dr (C8 a.1) (C8 b.1)=0 then if Dr a.2.1 b.2.1=0 then if Bh a.2.2.1 b.2.2.1=0 then Dr a.2.2.2 b.2.2.2 else Bh a.2.2.1 b.2.2.1 else Dr a.2.1 b.2.1 else Dr (C8 a.1) (C8 b.1):=by
 simp only[EE,Mm];split
 ·split
  ·split;·split<;>omega
   ·rfl
  ·rfl
 ·rfl
theorem Mn:H9 EE:=by
 have h:=(Od.comap C8).lex (Od.lex (ZCW.lex Od));refine⟨λx y=>?_,λx y z=>?_⟩;·have :=h.1 x y;simp only[U6];exact this
 ·have :=h.2 x y z;simp only[U6];exact this
theorem U7(a:O):EE a a=0:=by have :=Mn.1 a a;omega
theorem ZDZ{a b:Int}(ha:IT a)(hb:IT b)(h:C8 a=C8 b):a=b:=by rcases ha with rfl|rfl|rfl<;>rcases hb with rfl|rfl|rfl<;>first|rfl|(simp[C8]at h)
theorem U5{a b:O}(ha:IT a.1)(hb:IT b.1)(h:EE a b=0):a=b:=by
 rw[U6]at h;split at h
 ·rename_i h1;split at h
  ·rename_i h2;split at h;·rename_i h3;exact ZIU (ZDZ ha hb (TB h1)) (ZIU (TB h2) (ZIU (oT h3) (TB h)))
   ·rename_i h3;exact absurd h h3
  ·rename_i h2;exact absurd h h2
 ·rename_i h1;exact absurd h h1
def SS(l:List O):Prop:=l.Pairwise λa b=>EE a b<0
def K3(l:List O):Prop:=∀c∈l,IT c.1
theorem Vx:∀{l m:List O},SS l→SS m→(∀c,c∈l↔c∈m)→l=m
 |[],[],_,_,_=>rfl|[],b::m,_,_,h=>by have :=(h b).2 (by simp);simp at this|a::l,[],_,_,h=>by have :=(h a).1 (by simp);simp at this|a::l,b::m,h1,h2,h=>by
  obtain⟨NQ,Qk⟩:=List.pairwise_cons.1 h1;obtain⟨jY,h2b⟩:=List.pairwise_cons.1 h2;have e:a=b:=by
   rcases List.mem_cons.1 ((h a).1 (by simp))with e|ha;·exact e
   rcases List.mem_cons.1 ((h b).2 (by simp))with e|hb;·exact e.symm
   have :=NQ b hb;have :=jY a ha;have :=Mn.1 a b;omega
  subst e;congr 1;refine Vx Qk h2b λc=>?_;have hc:=h c;simp only[ZGe]at hc;have hn1:c∈l→c≠a:=λhm e=>by subst e;have :=NQ _ hm;have :=U7 c;omega
  have hn2:c∈m→c≠a:=λhm e=>by subst e;have :=jY _ hm;have :=U7 c;omega
  exact⟨λhm=>(hc.1 (.inr hm)).resolve_left (hn1 hm),λhm=>(hc.2 (.inr hm)).resolve_left (hn2 hm)⟩
theorem RW{c x:O}:∀{l:List O},x∈EL c l↔x=c∨x∈l
 |[]=>by simp[EL]|d::l=>by
  simp only[EL];split
  ·simp only[ZGe,RW (l:=l)];constructor;·rintro(h|h|h)<;>simp[h]
   ·rintro(h|h|h)<;>simp[h]
  ·split;·rename_i h;subst h;simp
   ·simp
theorem nU{c:O}:∀{l:List O},IT c.1→K3 l→SS l→SS (EL c l)
 |[],_,_,_=>ZKM _ _|d::l,hc,hk,h=>by
  obtain⟨h1,h2⟩:=List.pairwise_cons.1 h;simp only[EL];split
  ·rename_i hd;refine List.pairwise_cons.2 ⟨λx hx=>?_,nU hc (λx hx=>hk x (by simp[hx])) h2⟩;rcases RW.1 hx with rfl|hx;·exact hd
   ·exact h1 x hx
  ·rename_i hd;split;·exact h
   ·rename_i he;have Ab:EE c d<0:=by have :=Mn.1 c d;have :EE d c≠0:=λe=>he (U5 (hk d (by simp)) hc e);omega
    refine List.pairwise_cons.2 ⟨λx hx=>?_,h⟩;rcases List.mem_cons.1 hx with rfl|hx;·exact Ab
    ·have :=h1 x hx;have :=Mn.2 c d x (by omega) (by omega);omega
theorem bO:∀{l out:List O},K3 l→K3 out→SS out→SS (l.foldl (λout c=>EL c out) out)∧∀x,x∈l.foldl (λout c=>EL c out) out↔x∈l∨x∈out
 |[],out,_,_,h=>⟨h,by simp⟩|c::l,out,h1,h2,h=>by
  have hc:=h1 c (by simp);obtain⟨g1,g2⟩:=bO (l:=l) (out:=EL c out) (λx hx=>h1 x (by simp[hx])) (λx hx=>by
   rcases RW.1 hx with rfl|hx;·exact hc
   ·exact h2 x hx) (nU hc h2 h);refine⟨g1,λx=>?_⟩;rw[ZG3,g2,RW,ZGe];constructor;·rintro(h|h|h)<;>simp[h]
  ·rintro((h|h)|h)<;>simp[h]
theorem VQ{l:List O}(h:K3 l):SS (BB l):=(bO h (by intro c hc;simp at hc) List.Pairwise.nil).1
theorem Mt{l:List O}(h:K3 l)(x:O):x∈BB l↔x∈l:=by have :=(bO h (out:=[]) (by intro c hc;simp at hc) List.Pairwise.nil).2 x;simpa[BB]using this
theorem sZ{l m:List O}(h:K3 l)(hs:SS m)(hm:∀c,c∈m↔c∈l):m=BB l:=Vx hs (VQ h) λc=>by rw[hm,Mt h]
def Jo(out:List O)(x:O):List O:=if out.getLast?=some x then out else out++[x]
def Hn(l:List O):List O:=l.foldl Jo []
theorem WW:∀{l out:List O},K3 l→K3 out→SS out→l.Pairwise (λa b=>EE a b≤0)→(∀a∈out,∀b∈l,EE a b≤0)→SS (l.foldl Jo out)∧∀x,x∈l.foldl Jo out↔x∈l∨x∈out
 |[],out,_,_,h,_,_=>⟨h,by simp⟩|c::l,out,h1,h2,h,h3,h4=>by
  obtain⟨h3a,jZ⟩:=List.pairwise_cons.1 h3;have h1':K3 l:=λx hx=>h1 x (by simp[hx]);rw[ZG3];by_cases e:out.getLast?=some c
  ·rw[show Jo out c=out by rw[Jo,ZGE e]];obtain⟨g1,g2⟩:=WW h1' h2 h jZ λa ha b hb=>h4 a ha b (by simp[hb]);refine⟨g1,λx=>?_⟩;have A4:c∈out:=List.mem_of_getLast? e;rw[g2,ZGe];constructor;·rintro(h|h)<;>simp[h]
   ·rintro((h|h)|h);·subst h;exact .inr A4
    ·exact .inl h
    ·exact .inr h
  ·rw[show Jo out c=out++[c]by rw[Jo,ZGA e]];have Ab:∀a∈out,EE a c<0:=by
    intro a ha;have h5:=h4 a ha c (by simp);rcases Int.lt_or_eq_of_le h5 with h6|h6;·exact h6
    ·have hac:=U5 (h2 a ha) (h1 c (by simp)) h6;subst hac;rcases List.eq_nil_or_concat out with h7|⟨i,z,h7⟩;·subst h7;simp at ha
     ·rw[List.concat_eq_append]at h7;subst h7;rw[List.getLast?_append]at e;simp only[List.getLast?_singleton,Option.some_or,ZHl]at e;have h8:=(List.pairwise_append.1 h).2.2;rcases List.mem_append.1 ha with ha|ha;·have h9:=h8 a ha z (by simp);have Bx:=h4 z (by simp) a (by simp);have :=Mn.1 a z;omega
      ·simp only[ZGT]at ha;exact absurd ha.symm e
   obtain⟨g1,g2⟩:=WW (out:=out++[c]) h1' (λx hx=>by
    rcases List.mem_append.1 hx with hx|hx;·exact h2 x hx
    ·simp only[ZGT]at hx;subst hx;exact h1 x (by simp)) (List.pairwise_append.2 ⟨h,ZKM _ _,λa ha b hb=>by simp only[ZGT]at hb;subst hb;exact Ab a ha⟩) jZ λa ha b hb=>by
    rcases List.mem_append.1 ha with ha|ha;·exact h4 a ha b (by simp[hb])
    ·simp only[ZGT]at ha;subst ha;exact h3a b hb
   refine⟨g1,λx=>?_⟩;rw[g2,ZGa,ZGT,ZGe];constructor;·rintro(h|h|h)<;>simp[h]
   ·rintro((h|h)|h)<;>simp[h]
theorem yH{l b:List O}(hk:K3 l)(hp:l.Perm b)(hs:Px EE b):Hn b=BB l:=by have hk':K3 b:=λc hc=>hk c (hp.mem_iff.2 hc);obtain⟨g1,g2⟩:=WW (out:=[]) hk' (by intro c hc;simp at hc) List.Pairwise.nil (hs.imp λ{a b}h=>by have :=Mn.1 a b;omega) (by intro a ha;simp at ha);refine sZ hk g1 λc=>?_;have :=g2 c;rw[hp.mem_iff];simpa[Hn]using this
theorem yJ(out:List O)(x:O):(Jo out x).getLast?=some x:=by
 unfold Jo;split;·assumption
 ·simp
theorem SU{n g:Int}(h:CF n):CF (n.tdiv g):=by have :=Uu n g;unfold CF at*;omega
theorem zS{n:Int}{g:Nat}(hg:0<g)(h:CF n):CF (n/(g:Int)):=by
 unfold CF at*;have h1:=ZHT n g;have h2:=ZHQ n (show(g:Int)≠0 by omega);have h3:=ZHH n (show(0:Int)<g by omega);have h4:(1:Int)≤g:=by omega
 generalize n/(g:Int)=q at*;constructor
 ·apply ZJ9;intro hq;have :(g:Int)*q≤1*q:=by have :=ZJf h4 (show q≤0 by omega);omega
  have h5:(g:Int)*(q+1)≤1*(q+1):=ZJf h4 (show q+1≤0 by omega);rw[ZI4]at h5;omega
 ·apply ZJ9;intro hq;have h5:1*q≤(g:Int)*q:=Int.mul_le_mul_of_nonneg_right h4 (show 0≤q by omega);omega
theorem pT{n m:Int}(h1:1≤m)(h2:m≤2305843009213693952):CF (n%m):=by have h2:=ZHQ n (show m≠0 by omega);have h3:=ZHH n (show(0:Int)<m by omega);unfold CF;omega
theorem rK{c:O}(h:condB c)(h0:(Ae c).2=0):condB (Ae c).1:=by
 obtain⟨hk,h1,h2,h3⟩:=h;have hs:∀b,(Dd b).2≠0:=λb=>by cases b<;>simp[Dd]
 unfold Ae at h0⊢;rcases hk with hk|hk|⟨hk,EV,Iy⟩
 ·simp only[hk,ZHa]at h0⊢;unfold Gk at h0⊢;by_cases hg:AW c.2.2.1=0;·rw[ZGE hg]at h0;exact absurd h0 (hs _)
  ·rw[ZGA hg];refine⟨.inl rfl,by simpa using h1,λn hn=>?_,zS (by omega) h3⟩;obtain⟨m,hm,rfl⟩:=List.mem_map.1 hn;exact SU (h2 m hm)
 ·simp only[hk,show(1:Int)≠0 by decide,ZHa,ZHM]at h0⊢;unfold CU at h0⊢;by_cases hg:AW c.2.2.1=0∨c.2.2.2.tmod (AW c.2.2.1)≠0;·rw[ZGE hg]at h0;exact absurd h0 (hs _)
  ·rw[ZGA hg];refine⟨.inr (.inl rfl),by simpa using h1,λn hn=>?_,SU h3⟩;obtain⟨m,hm,rfl⟩:=List.mem_map.1 hn;exact SU (h2 m hm)
 ·simp only[hk,show(2:Int)≠0 by decide,show(2:Int)≠1 by decide,ZHM]at h0⊢;unfold FS at h0⊢;split at h0;·exact absurd h0 (hs _)
  split at h0;·exact absurd h0 (hs _)
  rename_i ha hb;rw[ZGA ha,ZGA hb];have hp:0<A9 c:=Qd EV _;have hle:A9 c≤c.2.1.toNat:=XW EV _;refine⟨.inr (.inr ⟨rfl,?_,?_⟩),by simpa using h1,λn hn=>?_,SU (pT EV Iy)⟩;·show 1≤c.2.1.tdiv (A9 c);rw[ZJJ (by omega)];have :(1:Int)=(A9 c:Int)/(A9 c:Int):=(Int.ediv_self (by omega)).symm;rw[this];exact Int.ediv_le_ediv (by omega) (by omega)
  ·have :=Uu c.2.1 (A9 c);show c.2.1.tdiv (A9 c)≤_;omega
  ·simp only[ZHP,ZGt]at hn;obtain⟨m,hm,rfl⟩:=hn;exact SU (pT EV Iy)
theorem condB.k3{c:O}(h:condB c):IT c.1:=by
 rcases h.1 with h|h|h;·exact .inl h
 ·exact .inr (.inl h)
 ·exact .inr (.inr h.1)
def OD(out:List O)(c:O):Option (List O):=if(Ae c).2<0 then none else if(Ae c).2=0 then some (out++[(Ae c).1])else some out
def Aq(p:List O):List O:=((p.map Ae).filter λr=>decide (r.2=0)).map (·.1)
def CZ(p:List O):Bool:=(p.map Ae).any λr=>decide (r.2<0)
theorem aI:∀(p out:List O),p.foldlM OD out=if CZ p then none else some (out++Aq p)
 |[],out=>by simp[CZ,Aq]|c::p,out=>by
  rw[ZGc];simp only[OD,CZ,Aq,ZGi,ZJ3];by_cases h:(Ae c).2<0;·simp[h]
  ·have ih:∀out,p.foldlM OD out=if CZ p then none else some (out++Aq p):=aI p;unfold CZ Aq at ih;by_cases h2:(Ae c).2=0;·simp only[ZGA h,ZGE h2,ZGv,ZHc,ih,ZGF h,ZHh];simp[h2]
   ·simp only[ZGA h,ZGA h2,ZGv,ZHc,ih,ZGF h,ZHh];simp[h2]
theorem VG{p:List O}(h:BN p):BN (Aq p):=by
 refine⟨?_,λc hc=>?_⟩;·have :=ZGf (λr:O×Int=>decide (r.2=0)) (p.map Ae);have :=h.1;simp only[Aq,ZGM]at*;omega
 ·simp only[Aq,ZGt,ZHx]at hc;obtain⟨r,⟨⟨d,hd,rfl⟩,hr⟩,rfl⟩:=hc;exact rK (h.2 d hd) (by simpa using hr)
theorem ZDH{p:List O}(h:BN p):oW p:=⟨h.1,λc hc=>⟨(h.2 c hc).2.1,Mf (h.2 c hc).2⟩⟩
theorem ZCC{a b:Int}(h:CF a)(h2:CF b):CF (min a b):=by unfold CF at*;omega
theorem ZCT{P:O→Prop}(J9:∀d c,P d→P c→P (Dw d c.2.2.2)){out:List O}{c:O}(h:∀d∈out,P d)(hc:P c):∀d∈GM out c,P d:=by
 intro d hd;unfold GM at hd;have key:d∈out++[c]→P d:=λhd=>by
  rcases List.mem_append.1 hd with hd|hd;·exact h d hd
  ·simp only[ZGT]at hd;subst hd;exact hc
 split at hd;·exact key hd
 ·split at hd
  ·rename_i i hi;obtain⟨hi,_⟩:=Y9 hi;rcases ZJN hd with hd|hd;·exact h d hd
   ·subst hd;exact J9 _ _ (h _ (AV (d:=U) hi)) hc
  ·exact key hd
theorem Uk{P:O→Prop}(J9:∀d c,P d→P c→P (Dw d c.2.2.2)){l:List O}(h:∀d∈l,P d):∀d∈Cq l,P d:=by
 have key:∀(l out:List O),(∀d∈out,P d)→(∀d∈l,P d)→∀d∈l.foldl GM out,P d:=by intro l;induction l with|nil=>exact λout h _=>h|cons c l ih=>exact λout h h2=>ih _ (ZCT J9 h (h2 c (by simp))) λd hd=>h2 d (by simp[hd])
 exact key l [] (by simp) h
theorem ZCg{d c:O}(hb:condB d)(hc:condB c):condB (Dw d c.2.2.2):=⟨hb.1,hb.2.1,hb.2.2.1,ZCC hb.2.2.2 hc.2.2.2⟩
theorem oQ{l:List O}(h:BN l):BN (Cq l):=by have :=ZT l [];have :=h.1;exact⟨by simp only[Cq];simp at*;omega,Uk (λd c=>ZCg) h.2⟩
theorem iH{c:O}(h:linB c.2.2):condB (Ae (1,0,c.2.2)).1:=by
 have hb:condB (1,0,c.2.2):=⟨.inr (.inl rfl),h⟩;by_cases h0:(Ae (1,0,c.2.2)).2=0;·exact rK hb h0
 ·have hd:condB U:=⟨.inl rfl,by simp,by simp,(by unfold CF;omega:CF 0)⟩;have :(Ae (1,0,c.2.2)).1=U:=by
   simp only[Ae,show(1:Int)≠0 by decide,ZHa,ZHM]at h0⊢;unfold CU at h0⊢;split;·simp[Dd]
   ·rename_i h1;rw[ZGA h1]at h0;exact absurd rfl h0
  rw[this];exact hd
theorem ZC9{P:O→Prop}(heq:∀c,c.1=0→P c→P (Ae (1,0,c.2.2)).1){l:List O}{st st':List O×(Int→Option Bool)}{ic:Nat×O}(h:IX l st ic=some st')(h1:∀d∈st.1,P d)(h2:P ic.2):∀d∈st'.1,P d:=by
 have key:∀x,P x→∀d∈st.1++[x],P d:=λx hx d hd=>by
  rcases List.mem_append.1 hd with hd|hd;·exact h1 d hd
  ·simp only[ZGT]at hd;subst hd;exact hx
 unfold IX at h;split at h;·cases h;exact h1
 ·split at h;·cases h;exact key _ h2
  ·rename_i j hj;have h0:ic.2.1=0:=by
    rcases ZJe (ic.2.1=0)with h0|h0;·exact h0
    ·rw[ZGE h0]at hj;cases hj
   split at h;·cases h
   ·split at h;·cases h;exact key _ (heq _ h0 h2)
    ·cases h;exact key _ h2
theorem Zz{P:O→Prop}(heq:∀c,c.1=0→P c→P (Ae (1,0,c.2.2)).1){l:List O}:∀{m:List (Nat×O)}{st st':List O×(Int→Option Bool)},m.foldlM (IX l) st=some st'→(∀d∈st.1,P d)→(∀ic∈m,P ic.2)→∀d∈st'.1,P d|[],st,st',h,h1,_=>by cases h;exact h1|x::m,st,st',h,h1,h2=>by simp only[ZGc,ZGv,ZGs]at h;obtain⟨s,h3,h4⟩:=h;exact Zz heq h4 (ZC9 heq h3 h1 (h2 x (by simp))) λic Qy=>h2 ic (by simp[Qy])
theorem uN{l:List O}{ic:Nat×O}(h:ic∈Jj l):ic.2∈l:=by simp only[Jj,ZGt,ZH5]at h;obtain⟨i,hi,rfl⟩:=h;exact AV hi
theorem qT{l out:List O}(h:BN l)(hp:GV l=some out):BN out:=by unfold GV at hp;rw[ZGo]at hp;obtain⟨st,h1,rfl⟩:=hp;have :=Z0 h1;rw[Mz]at this;have h0:=h.1;refine⟨by simp at this;omega,Zz (P:=condB) (λc _ hc=>iH hc.2) h1 (by simp) λic Qy=>h.2 _ (uN Qy)⟩
theorem Zy{P:O→Prop}(heq:∀c,c.1=0→P c→P (Ae (1,0,c.2.2)).1){l out:List O}(h:∀d∈l,P d)(hp:GV l=some out):∀d∈out,P d:=by unfold GV at hp;rw[ZGo]at hp;obtain⟨st,h1,rfl⟩:=hp;exact Zz heq h1 (by simp) λic Qy=>h _ (uN Qy)
theorem iK(C:List Int)(l:List O)(c:O):FB C (l++[c])=if c.1=1∧c.2.2.1=C then some c.2.2.2 else FB C l:=by
 simp only[FB,List.reverse_append,List.reverse_singleton,ZJE,List.find?_cons];by_cases h:c.1=1∧c.2.2.1=C;·rw[ZGE h,ZGB h];rfl
 ·rw[ZGA h,ZGF h]
theorem TS{C:List Int}{l:List O}{n:Int}(h:FB C l=some n):∃c∈l,c.1=1∧c.2.2.1=C∧c.2.2.2=n:=by simp only[FB,ZGo]at h;obtain⟨c,hc,rfl⟩:=h;have h1:=List.mem_of_find?_eq_some hc;have h2:=List.find?_some hc;simp only[ZG0]at h2;exact⟨c,by simpa using h1,h2.1,h2.2,rfl⟩
theorem SK{l:List O}:∀{m out out':List O},m.foldlM (Ky l) out=some out'→out'.length≤out.length+m.length∧∀d∈out',d∈out∨d∈m
 |[],out,out',h=>by cases h;simp|c::m,out,out',h=>by
  simp only[ZGc,ZGv,ZGs]at h;obtain⟨s,h3,h4⟩:=h;obtain⟨h5,h6⟩:=SK h4;have h7:s=out∨s=out++[c]:=by
   unfold Ky at h3;split at h3;·cases h3;exact .inr rfl
   ·split at h3;·split at h3<;>cases h3;exact .inl rfl
    ·split at h3;·split at h3<;>cases h3;exact .inl rfl
     ·cases h3;exact .inr rfl
  rcases h7 with rfl|rfl
  ·refine⟨by simp only[ZGL];omega,λd hd=>?_⟩;rcases h6 d hd with h|h;·exact .inl h
   ·exact .inr (by simp[h])
  ·refine⟨by simp only[ZGL,ZGI,ZGS]at*;omega,λd hd=>?_⟩;rcases h6 d hd with h|h
   ·rcases List.mem_append.1 h with h|h;·exact .inl h
    ·simp only[ZGT]at h;subst h;exact .inr (by simp)
   ·exact .inr (by simp[h])
theorem ZD4{l out:List O}(h:BN l)(hs:Gc l=some out):BN out:=by
 unfold Gc at hs;split at hs;·cases hs
 ·obtain⟨h1,h2⟩:=SK hs;have :=h.1;exact⟨by simp at h1;omega,λd hd=>(h2 d hd).elim (by simp) (h.2 d)⟩
theorem sI{P:O→Prop}{l out:List O}(h:∀d∈l,P d)(hs:Gc l=some out):∀d∈out,P d:=by
 unfold Gc at hs;split at hs;·cases hs
 ·exact λd hd=>((SK hs).2 d hd).elim (by simp) (h d)
theorem CN{α:Type}(o:Option α):o=none∨∃x,o=some x:=by cases o<;>simp
theorem JA(p:List O):Af p=if CZ p then([],true,(0:Int))else match(GV (Cq (Aq p))).bind Gc with|none=>([],true,(0:Int))|some out=>if(Aq p).any (λc=>!AG c)||decide (96<(BB out).length)then([],false,3)else(BB out,false,0):=rfl
theorem Ev.fn_eq(l:List O):Ev.fn (l,())=match GV l with|none=>([],true)|some out=>(out,false):=rfl
theorem fE{b:List O}{i:Nat}(h:i<b.length):Hn (b.take (i+1))=Jo (Hn (b.take i)) (b.getD i U):=by rw[B0 U h,Hn,ZHC];rfl
theorem yI{b:List O}{i:Nat}(h:i<b.length):(Hn (b.take (i+1))).getLast?=some (b.getD i U):=by rw[fE h];exact yJ _ _
theorem fD{b:List O}{i:Nat}(h:i+1<b.length):Hn (b.take (i+2))=if b.getD (i+1) U=b.getD i U then Hn (b.take (i+1))else Hn (b.take (i+1))++[b.getD (i+1) U]:=by
 rw[fE h,Jo,yI (by omega)];by_cases e:b.getD (i+1) U=b.getD i U;·rw[ZGE e,ZGE (by rw[e])]
 ·rw[ZGA e,ZGA λh=>e (ZH7 h).symm]
theorem AD.spec(p:List O)(hp:AD.pre (p,())):AD.wp p λr=>r=AD.fn (p,()):=by
 have hp':BN p:=hp;have hl:=hp'.1;have hQ:AD.fn (p,())=Af p:=rfl;simp only[AD.wp,hQ];refine Lp.foldO p U OD [] (by omega) ?_ ?_
 ·intro i out R e e2 hf ht BC BJ;have hb:=hp'.2 _ (AV (d:=U) e);have hlen:=TZ (f:=OD) λt x t' h=>by
   unfold OD at h;split at h;·cases h
   ·split at h<;>(cases h;simp) _ _ _ ht;simp only[ZGS,ZGP]at hlen;simp only[ZGB e2,ZGD,ZGC];refine⟨⟨by omega,by omega⟩,hb,?_⟩;simp only[OD]at BC BJ;by_cases h1:(Ae (p.getD i U)).2<0;·simp only[Bv.fn,ZGB h1,ZGC];have :=BJ (by rw[ZGE h1]);rw[aI]at this;rw[JA];cases hv:CZ p with|true=>rfl|false=>rw[hv]at this;cases this
  ·simp only[Bv.fn,ZGF h1,ZF9];rw[ZGA h1]at BC;by_cases h2:(Ae (p.getD i U)).2=0;·rw[ZGE h2]at BC;simp only[h2,ZHE,ZGC];exact⟨⟨by simp;omega,by simp;omega⟩,hf,BC _ rfl⟩
   ·rw[ZGA h2]at BC;simp only[beq_eq_false_iff_ne.2 h2,ZF9];exact⟨hf,BC _ rfl⟩
 intro raws R IP;rw[aI]at IP;have hv:CZ p=false:=by cases h:CZ p with|true=>rw[h]at IP;cases IP|false=>rfl
 rw[hv]at IP;simp only[ZGh,ZHM,ZG8,ZHl]at IP;subst IP;simp only[ZGH,ZGQ,ZF9];have Yu:=VG hp';have JY:Af p=match(GV (Cq (Aq p))).bind Gc with|none=>([],true,(0:Int))|some out=>if(Aq p).any (λc=>!AG c)||decide (96<(BB out).length)then([],false,3)else(BB out,false,0):=by rw[JA,hv];rfl
 generalize Aq p=l at*;generalize hT:Af p=T at*;have Ki:=oQ Yu;refine⟨λ_ _=>trivial,ZDH Yu,Ki,?_⟩;simp only[Ev.fn_eq,FL.fn];rcases CN (GV (Cq l))with Em|⟨out,Em⟩;·simp only[Em,ZGC];rw[JY,Em];rfl
 ·simp only[Em,ZF9];rw[Em]at JY;simp only[ZHc]at JY;have UE:=qT Ki Em;have C2:=UE.1;have hin:∀i,i<out.length→condB (out.getD i U):=λi hi=>UE.2 _ (AV hi);clear Em Ki Yu hp' hp;refine Lp.iter out.length (λi y=>y.1=(i:Int)∧(out.take i).foldlM Iq []=some (out.take i)∧∀C,y.2 (CP (CG C 1))=FB C (out.take i)) ⟨rfl,rfl,λC=>rfl⟩ ?_;rintro i⟨y,m⟩hle⟨hy,hf,hm⟩R hR;simp only at hy hm;subst hy;by_cases e:i<out.length
  ·have hb:=hin i e;have Bb:=B0 U e;have PF:(out.take (i+1)).foldlM Iq []=Iq (out.take i) (out.getD i U):=by rw[Bb,ZHq,hf];show(Iq _ _).bind _=_;cases Iq (out.take i) (out.getD i U)<;>rfl
   have PY:Iq (out.take i) (out.getD i U)=none→T=([],true,0):=λh=>by
    have h1:out.foldlM Iq []=none:=by rw[←ZHv (i+1) out,ZHq,PF,h];rfl
    rw[JY,Gc,h1]
   simp only[ZGB (show(i:Int)<(out.length:Int)by omega),ZGD,ZGC];refine⟨⟨by omega,by omega⟩,?_⟩;by_cases hk:(out.getD i U).1=1
   ·simp only[hk,ZGb,ZF9,Cb.fn];have hg:∀b:Bool,b=true→b=true∧True:=λb h=>⟨h,trivial⟩;refine⟨⟨hb.2.1,Mf hb.2,.inl rfl⟩,hg _,hg _,λh=>⟨h,h,trivial⟩,λh=>h,?_⟩;simp only[hm];have hstep:Iq (out.take i) (out.getD i U)=match FB (out.getD i U).2.2.1 (out.take i)with|some n=>if n≠(out.getD i U).2.2.2 then none else some (out.take i++[out.getD i U])|none=>some (out.take i++[out.getD i U]):=by unfold Iq;exact ZGA λh=>h hk
    have BW:∀C,Bu m (CP (CG (out.getD i U).2.2.1 1)) (out.getD i U).2.2.2 (CP (CG C 1))=FB C (out.take (i+1)):=λC=>by
     rw[Bb,iK];simp only[Bu,ZL];by_cases hC:C=(out.getD i U).2.2.1;·rw[ZGE hC,ZGE ⟨hk,hC.symm⟩]
     ·rw[ZGA hC,ZGA λh=>hC h.2.symm];exact hm C
    cases hq:FB (out.getD i U).2.2.1 (out.take i)with|none=>rw[hq]at hstep;simp only[ZIg,ZJB,ZF9];refine⟨⟨by omega,by omega⟩,hR e _ ⟨rfl,?_,BW⟩⟩;rw[PF,hstep,Bb]|some n=>
     rw[hq]at hstep;simp only[ZI2,ZIe,ZH2];by_cases hn:n=(out.getD i U).2.2.2;·simp only[hn,ZGb,ZF9];refine⟨⟨by omega,by omega⟩,hR e _ ⟨rfl,?_,BW⟩⟩;rw[PF,Bb];exact hstep.trans (ZGA λh=>h hn)
     ·simp only[bne_iff_ne.2 hn,ZGC];exact(PY (hstep.trans (ZGE hn))).symm
   ·simp only[bne_iff_ne.2 hk,ZGC];refine⟨⟨by omega,by omega⟩,hR e _ ⟨rfl,?_,λC=>?_⟩⟩;·rw[PF,Bb];exact ZGE hk
    ·rw[Bb,iK,ZGA λh=>hk h.1];exact hm C
  have MN:i=out.length:=by omega
  subst MN;clear hR hle;simp only[ZGH,ZGQ,ZF9];rw[ZGN]at hf hm;have BO:Gc out=out.foldlM (Ky out) []:=by rw[Gc,hf]
  rw[BO]at JY;refine Lp.foldO out U (Ky out) [] (by omega) ?_ ?_
  ·intro i o2 R e e2 PB ht BC BJ;have hb:=hin i e;obtain⟨hlen,_⟩:=SK ht;simp only[ZGS,ZGP]at hlen;simp only[ZGB e2,ZGD,ZGC];refine⟨⟨by omega,by omega⟩,?_⟩;have PY:Ky out o2 (out.getD i U)=none→T=([],true,0):=λh=>by rw[JY,BJ h]
   clear BJ;by_cases hk:(out.getD i U).1=0
   ·simp only[hk,ZHE,ZGC,Cb.fn];refine⟨⟨hb.2.1,Mf hb.2,.inl rfl⟩,?_⟩;simp only[oD.2 (rfl:A5 (out.getD i U).2.2.1=_),hm];have hstep:Ky out o2 (out.getD i U)=match FB (out.getD i U).2.2.1 out with|some n=>if(out.getD i U).2.2.2<n then none else some o2|none=>match FB (A5 (out.getD i U).2.2.1) out with|some n=>if(out.getD i U).2.2.2+n<0 then none else some o2|none=>some (o2++[out.getD i U]):=by unfold Ky;exact ZGA λh=>h hk
    cases hq:FB (out.getD i U).2.2.1 out with|some n=>
     rw[hq]at hstep;simp only[ZI2,ZIe,ZGC]at hstep⊢;by_cases hn:(out.getD i U).2.2.2<n;·simp only[ZGB hn,ZGC];exact(PY (by rw[hstep,ZGE hn])).symm
     ·simp only[ZGF hn,ZF9];exact⟨PB,BC _ (by rw[hstep,ZGA hn])⟩|none=>rw[hq]at hstep;simp only[ZIg,ZF9]at hstep⊢;refine⟨⟨hb.2.1,Mf hb.2,.inr rfl⟩,?_⟩;cases Gt:FB (A5 (out.getD i U).2.2.1) out with
     |some n=>
      rw[Gt]at hstep;obtain⟨d,hd,_,_,Jy⟩:=TS Gt;have q1:=(UE.2 d hd).2.2.2;have q2:=hb.2.2.2;rw[Jy]at q1;unfold CF at q1 q2;simp only[ZI2,ZIe,ZGC]at hstep⊢;refine⟨⟨by omega,by omega⟩,?_⟩;by_cases hn:(out.getD i U).2.2.2+n<0;·simp only[ZGB hn,ZGC];exact(PY (by rw[hstep,ZGE hn])).symm
      ·simp only[ZGF hn,ZF9];exact⟨PB,BC _ (by rw[hstep,ZGA hn])⟩|none=>rw[Gt]at hstep;simp only[ZIg,ZF9]at hstep⊢;exact⟨⟨by simp;omega,by simp;omega⟩,PB,BC _ hstep⟩
   ·simp only[beq_eq_false_iff_ne.2 hk,ZF9];exact⟨⟨by simp;omega,by simp;omega⟩,PB,BC _ (ZGE hk)⟩
  intro res R HM;simp only[ZGH,ZGQ,ZF9];rw[HM]at JY;simp only at JY;obtain⟨Gv,mP⟩:=SK HM;simp only[ZGS,ZGu]at Gv;have Gp:K3 res:=λd hd=>(mP d hd).elim (by simp) λh=>(UE.2 d h).k3;clear HM BO hm hf hin mP;refine⟨⟨by omega,λa ha b hb=>⟨Gp a ha,Gp b hb⟩⟩,λb8 hb8=>?_⟩;obtain⟨hperm,Ko⟩:=hb8;have Co:=yH Gp hperm Ko;have O8:b8.length≤1048576:=by have :=hperm.length_eq;omega
  have O7:∀i,i<b8.length→IT (b8.getD i U).1:=λi hi=>Gp _ (hperm.mem_iff.2 (AV hi));rw[←Co]at JY;clear Co hperm Ko Gv Gp;have JU:∀(b:Bool)(r:List O),b=(l.any λc=>!AG c)→r=Hn b8→cond (b||decide ((96:Int)<(r.length:Int))) ((([]:List O),false,(3:Int))=T) ((r,false,(0:Int))=T):=by rintro b r rfl rfl;rw[JY];have e:decide ((96:Int)<((Hn b8).length:Int))=decide (96<(Hn b8).length):=decide_eq_decide.2 (by omega);rw[e];cases h:(l.any λc=>!AG c)||decide (96<(Hn b8).length)<;>rfl
  have hg:∀b:Bool,b=true→b=true∧True:=λb h=>⟨h,trivial⟩;have YL:∀b:Bool,b=false→(!b)=true:=λb h=>by rw[h];rfl
  by_cases hs:b8.length<2;·simp only[ZGB (show((b8.length:Nat):Int)<2 by omega),ZGC];refine⟨hg _,hg _,YL _,JU _ _ rfl ?_⟩;match b8,hs with|[],_=>rfl|[x],_=>rfl
  simp only[ZGF (show¬((b8.length:Nat):Int)<2 by omega),ZF9];refine Lp.iter (b8.length-1) (λi y=>y=(i:Int)+1∧Hn (b8.take (i+1))=b8.take (i+1)) ⟨rfl,?_⟩ ?_;·match b8,hs with|x::b,_=>rfl|[],h=>exact absurd (by simp) h
  rintro i y hle⟨rfl,hc⟩R hR;by_cases e:i+1<b8.length
  ·have t1:((i:Int)+1).toNat=i+1:=by omega
   have t2:((i:Int)+1-1).toNat=i:=by omega
   simp only[ZGB (show(i:Int)+1<(b8.length:Int)by omega),ZGC,t1,t2];have k1:=O7 (i+1) e;have k2:=O7 i (by omega);have hcs:=fD e;refine⟨⟨by omega,by omega⟩,by omega,⟨by omega,by omega⟩,⟨by omega,by omega⟩,by omega,⟨k1,k2⟩,?_⟩;by_cases heq:b8.getD (i+1) U=b8.getD i U
   ·have :(EE (b8.getD (i+1) U) (b8.getD i U)==0)=true:=by rw[heq,U7];rfl
    simp only[Ec.fn,this,ZGC];rw[ZGE heq]at hcs;refine⟨⟨by omega,by omega⟩,?_⟩;clear hR;refine Lp.iter (b8.length-(i+1)-1) (λk y=>y.1=(k:Int)+1∧∃n:Nat,y.2.1=(n:Int)∧n≤i+1+k∧y.2.2.length=b8.length∧Hn (b8.take (i+1+k+1))=y.2.2.take n∧∀j,i+1+k≤j→y.2.2.getD j U=b8.getD j U) ⟨rfl,i+1,rfl,by omega,rfl,by rw[←hc,←hcs],λj _=>rfl⟩ ?_;rintro k⟨y1,y2,a⟩ZBT⟨KI,n,RS,hn,hal,hca,BR⟩R2 BJ;simp only at KI RS hal hca BR;subst KI RS;by_cases e2:i+1+k+1<b8.length
    ·have t3:((k:Int)+1).toNat=k+1:=by omega
     have t4:((k:Int)+1-1).toNat=k:=by omega
     simp only[ZGB (show(k:Int)+1<((b8.length-(i+1):Nat):Int)by omega),ZGC,t3,t4,ZGD,ZGu];have g1:a.getD (i+1+(k+1)) U=b8.getD (i+1+k+1) U:=BR _ (by omega);have g2:a.getD (i+1+k) U=b8.getD (i+1+k) U:=BR _ (by omega);simp only[g1,g2];have k3:=O7 (i+1+k+1) e2;have k4:=O7 (i+1+k) (by omega);have Ts:=fD e2;refine⟨⟨by omega,by omega,by omega⟩,by omega,⟨by omega,by omega⟩,⟨by omega,by omega,by omega⟩,by omega,⟨k3,k4⟩,?_⟩;by_cases Tw:b8.getD (i+1+k+1) U=b8.getD (i+1+k) U
     ·have :(EE (b8.getD (i+1+k+1) U) (b8.getD (i+1+k) U)==0)=true:=by rw[Tw,U7];rfl
      simp only[Ec.fn,this,ZGq,ZF9];rw[ZGE Tw]at Ts;refine⟨⟨by omega,by omega⟩,BJ (by omega) _ ⟨by simp,n,rfl,by omega,hal,?_,λj hj=>BR j (by omega)⟩⟩;rw[show i+1+(k+1)+1=i+1+k+2 by omega,Ts,hca]
     ·have :(EE (b8.getD (i+1+k+1) U) (b8.getD (i+1+k) U)==0)=false:=beq_eq_false_iff_ne.2 λh=>Tw (U5 k3 k4 h);simp only[Ec.fn,this,ZGz,ZGC];rw[ZGA Tw]at Ts;refine⟨⟨by omega,by omega,by omega⟩,by omega,⟨by omega,by omega⟩,by omega,⟨by omega,by omega⟩,⟨by omega,by omega⟩,BJ (by omega) _ ⟨by simp,n+1,by simp,by omega,by simp[hal],?_,λj hj=>?_⟩⟩
      ·rw[show i+1+(k+1)+1=i+1+k+2 by omega,Ts,hca];simp only;rw[List.take_set,ZI7,ZIO _ _ (by simp;omega)];have Gs:n-(a.take n).length=0:=by simp;omega
       rw[Gs,ZGU (show n<a.length by omega)];rfl
      ·simp only;rw[ZGG,ZIS (by omega),←ZGG];exact BR j (by omega)
    ·have hk:i+1+k+1=b8.length:=by omega
     simp only[ZGF (show¬(k:Int)+1<((b8.length-(i+1):Nat):Int)by omega),ZF9,ZGD,ZGu];rw[hk,ZGN]at hca;have IH:List.drop (n+(a.length-n)) a=[]:=ZJW (by omega);simp only[IH,ZGZ,ZJs];have Lf:List.take n (a.take n++List.replicate (a.length-n) U)=a.take n:=by rw[ZI5 (by simp;omega),ZKb,Nat.min_self]
     have MP:(a.take n++List.replicate (a.length-n) U).length=a.length:=by simp;omega
     simp only[Lf,MP];exact⟨⟨by omega,by omega⟩,by omega,⟨by omega,by omega⟩,by omega,hg _,hg _,YL _,JU _ _ rfl hca.symm⟩
   ·have :(EE (b8.getD (i+1) U) (b8.getD i U)==0)=false:=beq_eq_false_iff_ne.2 λh=>heq (U5 k1 k2 h);simp only[Ec.fn,this,ZF9];rw[ZGA heq]at hcs;refine⟨⟨by omega,by omega⟩,hR (by omega) _ ⟨by omega,?_⟩⟩;rw[hcs,hc,B0 U e]
  ·have hi:i+1=b8.length:=by omega
   simp only[ZGF (show¬(i:Int)+1<(b8.length:Int)by omega),ZF9];rw[hi,ZGN]at hc;exact⟨hg _,hg _,YL _,JU _ _ rfl hc.symm⟩
abbrev Ex.fn(x:List (List O)×Unit):List O:=x.1.flatten
abbrev Ex.pre(x:List (List O)×Unit):Prop:=x.1.length≤1048576∧x.1.flatten.length≤1048576
def BT(out:List (List O))(p:List O):Option (List (List O)):=if(Af p).2.2≠0 then none else if(Af p).2.1=true∨(Af p).1∈out then some out else if 400<out.length+1 then none else some (out++[(Af p).1])
def Bg(l:List (List O)):Option (List (List O)):=l.foldlM BT []
def GO(n:Int)(o:Option (List (List O))):AM×Int:=match o with|none=>((0,[]),3)|some out=>((n,out),0)
def AX(x:AM):AM×Int:=if AY x=false then((0,[]),1)else GO x.1 (Bg x.2)
abbrev Ca.fn(x:AM×Unit):AM×Int:=AX x.1
def Ed(p:List O)(n:Int):List O×Bool×Int:=if n<0∨12<n then([],false,6)else if 384<p.length then([],false,3)else if p.any λc=>!AG c then([],false,1)else if GS p n=false then([],false,2)else Af p
abbrev If.fn(x:O×Unit):Bool:=!AG x.1
abbrev Hh.fn(x:List O×Int×Unit):List O×Bool×Int:=Ed x.1 x.2.1
def F8(a b:List O)(out:List (List O))(i:Nat):Option (List (List O)):=if(Cr (b.getD i U)).2≠0 then none else some (out++(Cr (b.getD i U)).1.map λo=>a++(b.take i++[o]))
def CT(a b:List O):List (List O)×Int:=if(Af (a++b)).2.2≠0 then([],3)else if(Af (a++b)).2.1=true then([a],0)else match(List.range b.length).foldlM (F8 a b) []with|none=>([],3)|some out=>(out,0)
def Cv(p:List O):Prop:=p.length≤4096∧∀c∈p,AG c=true
abbrev Fq.fn(x:List O×List O×Unit):List (List O)×Int:=CT x.1 x.2.1
abbrev Fq.pre(x:List O×List O×Unit):Prop:=Cv x.1∧Cv x.2.1
def Jc(cur:List (List O))(b:List O):Option (List (List O)):=cur.foldlM (λout a=>if(CT a b).2≠0 then none else(CT a b).1.foldlM BT out) []
def D8(x y:AM):AM×Int:=if JJ x y≠0 then((0,[]),JJ x y)else if(AX x).2≠0∨(AX y).2≠0 then((0,[]),3)else GO x.1 ((AX y).1.2.foldlM Jc (AX x).1.2)
abbrev Hg.fn(x:AM×AM×Unit):AM×Int:=D8 x.1 x.2.1
def DA(n:Int):Bool:=decide (-4294967296≤n)&&decide (n≤4294967296)
def A0:List Int→List Int→Int|x::a,y::b=>x*y+A0 a b|_,_=>0
def JB(c:O)(v:Int):Bool:=if c.1=0 then decide (0≤v)else if c.1=1 then v==0 else v.tmod c.2.1==0
def Ca.wp(x0:Int×List (List O))(Q:(Int×List (List O))×Int→Prop):Prop:=cond (! Cu.fn (x0,())) (Q ((0,([]:List (List O))),1)) (Lp (σ:=Int×List (List O)×(ByteArray→Option Bool)) (λy2 R2=>let v0:=x0.2.getD y2.1.toNat ([]:List O);let v1:=A1.fn ((AD.fn (v0,())).1,());let v3:=[(AD.fn (v0,())).1];cond (decide (y2.1<x0.2.length)) ((0≤y2.1∧y2.1<x0.2.length)∧AD.pre (v0,())∧cond (((AD.fn (v0,())).2).2 !=0) (cond (((AD.fn (v0,())).2).2 !=0) (Q ((0,([]:List (List O))),((AD.fn (v0,())).2).2)) (Q ((x0.1,([]:List (List O))),0))) (((!((AD.fn (v0,())).2).1)=true→(!((AD.fn (v0,())).2).1)=true∧A1.pre ((AD.fn (v0,())).1,()))∧((!((AD.fn (v0,())).2).1)=true→(!((AD.fn (v0,())).2).1)=true∧(!((AD.fn (v0,())).2).1)=true∧True)∧(((AD.fn (v0,())).2).1=false→(!((AD.fn (v0,())).2).1)=true)∧cond (((AD.fn (v0,())).2).1||Option.getD (y2.2.2 v1) false) (AA .i64 (y2.1+1)∧R2 ( y2.1+1,y2.2)) (A1.pre ((AD.fn (v0,())).1,())∧((y2.2.1.length+v3.length)*24≤140737488355328∧y2.2.1.length+v3.length≤9223372036854775807)∧cond (decide (400<(( List.length (y2.2.1++v3):Nat):Int))) (Q ((0,([]:List (List O))),3)) (AA .i64 (y2.1+1)∧R2 ( y2.1+1,( y2.2.1++v3,Bu y2.2.2 v1 true)))))) (Q ((x0.1,y2.2.1),0))) (0,(([]:List (List O)),λ(a2:ByteArray)=>(none:Option Bool))))
def Ex.wp(x0:List (List O))(Q:List O→Prop):Prop:=Lp (σ:=Int×Int) (λy2 R2=>let v0:=x0.getD y2.1.toNat ([]:List O);cond (decide (y2.1<x0.length)) ((0≤y2.1∧y2.1<x0.length)∧AA .i64 (y2.2+v0.length)∧cond (decide ( y2.2+v0.length<0)) False (AA .i64 (y2.1+1)∧R2 ( y2.1+1,y2.2+v0.length))) (cond (decide (y2.2<0)) False (AA .i64 (0-0)∧AA .i64 (y2.2-(0-0))∧cond (decide (0<y2.2-(0-0))) ((0≤(0:Int)∧0≤((0:Nat):Int))∧(0≤y2.2-(0-0)∧(y2.2-(0-0))*((48:Nat):Int)≤140737488355328∧y2.2-(0-0)≤9223372036854775807)∧(0≤(0:Int)∧0≤((List.length (.replicate (Int.toNat (y2.2-(0-0))) U):Nat):Int))∧Lp (σ:=Int×List O) (λy4 R4=>let v3:=x0.getD y4.1.toNat ([]:List O);cond (decide (y4.1<x0.length)) ((0≤y4.1∧y4.1<x0.length)∧((y4.2.length+v3.length)*48≤140737488355328∧y4.2.length+v3.length≤9223372036854775807)∧AA .i64 (y4.1+1)∧R4 ( y4.1+1,y4.2++v3)) (Q y4.2)) (0,([]:List O))) (Lp (σ:=Int×List O) (λy4 R4=>let v3:=x0.getD y4.1.toNat ([]:List O);cond (decide (y4.1<x0.length)) ((0≤y4.1∧y4.1<x0.length)∧((y4.2.length+v3.length)*48≤140737488355328∧y4.2.length+v3.length≤9223372036854775807)∧AA .i64 (y4.1+1)∧R4 ( y4.1+1,y4.2++v3)) (Q y4.2)) (0,([]:List O)))))) (0,0)
def Fq.wp(x0:List O)(x1:List O)(Q:List (List O)×Int→Prop):Prop:=let v0:=Ex.fn ([x0,x1],());Ex.pre ([x0,x1],())∧AD.pre (v0,())∧cond (((AD.fn (v0,())).2).2 !=0) (Q (([]:List (List O)),((AD.fn (v0,())).2).2)) (cond ((AD.fn (v0,())).2).1 (Q ([x0],0)) (Lp (σ:=Int×List (List O)) (λy3 R3=>let v2:=G7.fn ( x1.getD y3.1.toNat U,());let v3:=List.take y3.1.toNat x1;cond (decide (y3.1<x1.length)) ((0≤y3.1∧y3.1<x1.length)∧cond (v2.2 !=0) (Q (([]:List (List O)),v2.2)) (Lp (σ:=Int×List (List O)) (λy5 R5=>let v4:=v2.1.getD y5.1.toNat U;let v5:=Ex.fn ([x0,v3,[v4]],());cond (decide (y5.1<v2.1.length)) ((0≤y5.1∧y5.1<v2.1.length)∧(0≤y3.1∧y3.1≤x1.length)∧Ex.pre ([x0,v3,[v4]],())∧((y5.2.length+List.length [v5])*24≤140737488355328∧y5.2.length+List.length [v5]≤9223372036854775807)∧AA .i64 (y5.1+1)∧R5 ( y5.1+1,y5.2++[v5])) (AA .i64 (y3.1+1)∧R3 ( y3.1+1,y5.2))) (0,y3.2))) (Q (y3.2,0))) (0,([]:List (List O)))))
def Hg.wp(x0:Int×List (List O))(x1:Int×List (List O))(Q:(Int×List (List O))×Int→Prop):Prop:=let v0:=Hj.fn (x0,(x1,()));let v1:=List.length ((Ca.fn (x1,())).1).2;cond (v0 !=0) (Q ((0,([]:List (List O))),v0)) (( !(Ca.fn (x0,())).2 !=0=true→!(Ca.fn (x0,())).2 !=0=true∧True)∧(((Ca.fn (x0,())).2 !=0)=false→(!(Ca.fn (x0,())).2 !=0)=true)∧cond ((Ca.fn (x0,())).2 !=0||(Ca.fn (x1,())).2 !=0) (Q ((0,([]:List (List O))),3)) (Lp (σ:=Int×Int×Int×List (List O)×Int) (λy3 R3=>let v3:=List.getD ((Ca.fn (x1,())).1).2 y3.1.toNat ([]:List O);cond (decide (y3.1<((v1:Nat):Int))) ((0≤y3.1∧y3.1<((v1:Nat):Int))∧Lp (σ:=Int×List (List O)×(ByteArray→Option Bool)) (λy5 R5=>let v2:=y3.2.2.2.1.getD y5.1.toNat ([]:List O);let v4:=Fq.fn (v2,(v3,()));cond (decide (y5.1<y3.2.2.2.1.length)) ((0≤y5.1∧y5.1<y3.2.2.2.1.length)∧Fq.pre (v2,(v3,()))∧cond (v4.2 !=0) (( ! 0 !=0=true→! 0 !=0=true∧True)∧((0 !=0)=false→! 0 !=0=true)∧cond ( 0 !=0||v4.2 !=0) (Q ((0,([]:List (List O))),3)) (AA .i64 (y3.1+1)∧R3 ( y3.1+1,(0,(x0.1,(y5.2.1,v4.2)))))) (Lp (σ:=Int×List (List O)×(ByteArray→Option Bool)) (λy7 R7=>let v5:=v4.1.getD y7.1.toNat ([]:List O);let v6:=A1.fn ((AD.fn (v5,())).1,());let v8:=[(AD.fn (v5,())).1];cond (decide (y7.1<v4.1.length)) ((0≤y7.1∧y7.1<v4.1.length)∧AD.pre (v5,())∧cond (((AD.fn (v5,())).2).2 !=0) (cond (((AD.fn (v5,())).2).2 !=0) (((!((AD.fn (v5,())).2).2 !=0)=true→!((AD.fn (v5,())).2).2 !=0=true∧True)∧((((AD.fn (v5,())).2).2 !=0)=false→!((AD.fn (v5,())).2).2 !=0=true)∧cond (((AD.fn (v5,())).2).2 !=0||y3.2.2.2.2 !=0) (Q ((0,([]:List (List O))),3)) (AA .i64 (y3.1+1)∧R3 ( y3.1+1,(((AD.fn (v5,())).2).2,(0,(([]:List (List O)),y3.2.2.2.2)))))) (( ! 0 !=0=true→(! 0 !=0)=true∧True)∧((0 !=0)=false→! 0 !=0=true)∧cond ( 0 !=0||y3.2.2.2.2 !=0) (Q ((0,([]:List (List O))),3)) (AA .i64 (y3.1+1)∧R3 ( y3.1+1,(0,(x0.1,(([]:List (List O)),y3.2.2.2.2))))))) (((!((AD.fn (v5,())).2).1)=true→(!((AD.fn (v5,())).2).1)=true∧A1.pre ((AD.fn (v5,())).1,()))∧((!((AD.fn (v5,())).2).1)=true→(!((AD.fn (v5,())).2).1)=true∧(!((AD.fn (v5,())).2).1)=true∧True)∧(((AD.fn (v5,())).2).1=false→(!((AD.fn (v5,())).2).1)=true)∧cond (((AD.fn (v5,())).2).1||Option.getD (y7.2.2 v6) false) (AA .i64 (y7.1+1)∧R7 ( y7.1+1,y7.2)) (A1.pre ((AD.fn (v5,())).1,())∧((y7.2.1.length+v8.length)*24≤140737488355328∧y7.2.1.length+v8.length≤9223372036854775807)∧cond (decide (400<(( List.length (y7.2.1++v8):Nat):Int))) (((! 3 !=0)=true→! 3 !=0=true∧True)∧((3 !=0)=false→(! 3 !=0)=true)∧Q ((0,([]:List (List O))),3)) (AA .i64 (y7.1+1)∧R7 ( y7.1+1,( y7.2.1++v8,Bu y7.2.2 v6 true)))))) (AA .i64 (y5.1+1)∧R5 ( y5.1+1,y7.2))) (0,y5.2))) (((! 0 !=0)=true→! 0 !=0=true∧True)∧((0 !=0)=false→! 0 !=0=true)∧cond ( 0 !=0||y3.2.2.2.2 !=0) (Q ((0,([]:List (List O))),3)) (AA .i64 (y3.1+1)∧R3 ( y3.1+1,(0,(x0.1,(y5.2.1,y3.2.2.2.2))))))) (0,(([]:List (List O)),λ(a5:ByteArray)=>(none:Option Bool)))) (Q ((y3.2.2.1,y3.2.2.2.1),0))) (0,((Ca.fn (x0,())).2,(((Ca.fn (x0,())).1).1,(((Ca.fn (x0,())).1).2,0))))))
def If.wp(x0:O)(Q:Bool→Prop):Prop:=Q ! B8.fn (x0,())
def Hh.wp(x0:List O)(x1:Int)(Q:List O×Bool×Int→Prop):Prop:=((! decide (x1<0))=true→(! decide (x1<0))=true∧True)∧(decide (x1<0)=false→(! decide (x1<0))=true)∧cond (decide (x1<0)||decide (12<x1)) (Q (([]:List O),(false,6))) (cond (decide (384<(x0.length:Int))) (Q (([]:List O),(false,3))) (Ey.pre (x0,((λ(a3:O)=>True,λ(a3:O)=>If.fn (a3,())),()))∧cond (Ey.fn (x0,((λ(a3:O)=>True,λ(a3:O)=>If.fn (a3,())),()))) (Q (([]:List O),(false,1))) (cond (! Gb.fn (x0,(x1,()))) (Q (([]:List O),(false,2))) (AD.pre (x0,())∧Q ((AD.fn (x0,())).1,(AD.fn (x0,())).2)))))
theorem tR{P:O→Prop}(J9:∀d c,P d→P c→P (Dw d c.2.2.2))(heq:∀c,c.1=0→P c→P (Ae (1,0,c.2.2)).1){p:List O}(hb:BN p)(h:∀d∈Aq p,P d):∀d∈(Af p).1,P d:=by
 rw[JA];split;·simp
 ·rcases CN ((GV (Cq (Aq p))).bind Gc)with ho|⟨out,ho⟩;·rw[ho];simp
  ·rw[ho];simp only;split;·simp
   ·obtain⟨o1,h1,h2⟩:=Option.bind_eq_some_iff.1 ho;have k3:K3 out:=by have :=ZD4 (qT (oQ (VG hb)) h1) h2;exact λc hc=>(this.2 c hc).k3
    intro d hd;rw[Mt k3]at hd;exact sI (Zy heq (Uk J9 h) h1) h2 d hd
theorem Ve(p:List O):(Af p).2.2=0∨(Af p).2.2=3∧(Af p).2.1=false:=by
 rw[JA];split;·exact .inl rfl
 ·split;·exact .inl rfl
  ·split;·exact .inr ⟨rfl,rfl⟩
   ·exact .inl rfl
theorem bX(p:List O):(Af p).1.length≤96:=by
 rw[JA];split;·simp
 ·split;·simp
  ·split;·simp
   ·rename_i h;simp only[ZHn,ZG0,ZGx]at h;simp only;omega
theorem TV{n:Int}:DB n=true↔-1048576≤n∧n≤1048576:=by simp[DB]
theorem ZE1{k m K K':Int}{C:List Int}(h:AG (k,m,C,K)=true)(hK:DB K'=true):AG (k,m,C,K')=true:=by
 have key:Bo (C,K)=true→Bo (C,K')=true:=by intro h;simp only[Bo,ZGW]at h⊢;exact⟨h.1,h.2.1,hK⟩
 simp only[AG]at*;split at h;·rename_i h0;rw[ZGE h0];simp only[ZGW]at h⊢;exact⟨h.1,key h.2⟩
 ·rename_i h0;rw[ZGA h0];split at h;·rename_i h1;rw[ZGE h1];simp only[ZGW]at h⊢;exact⟨h.1,key h.2⟩
  ·cases h
theorem ZCh{d c:O}(hd:AG d=true)(hc:AG c=true):AG (Dw d c.2.2.2)=true:=by have h1:=(Bo.b (AG.lin hc)).2.2;have h2:=(Bo.b (AG.lin hd)).2.2;exact ZE1 hd (TV.2 (by omega))
theorem zD:AG U=true:=by decide
theorem oV{C:List Int}{K:Int}(h1:C.length≤12)(h2:∀n∈C,DB n=true)(h3:DB K=true):Bo (C,K)=true:=by simp only[Bo,ZGW,ZHi,ZG0];exact⟨h2,by omega,h3⟩
theorem ZE3{C:List Int}{K:Int}(h:Bo (C,K)=true):AG (1,0,C,K)=true:=by simp[AG,h]
theorem ZAX{c:O}(h:Bo c.2.2=true):AG (Ae (1,0,c.2.2)).1=true:=by
 simp only[Ae,show(1:Int)≠0 by decide,ZHa,ZHM];unfold CU;split;·unfold Dd;exact zD
 ·obtain⟨h1,h2,h3⟩:=Bo.b h;have key:∀n g:Int,-1048576≤n∧n≤1048576→DB (n.tdiv g)=true:=λn g hn=>by have :=Uu n g;rw[TV];omega
  refine ZE3 (oV (by simpa using h1) (λn hn=>?_) (key _ _ h3));obtain⟨m,hm,rfl⟩:=List.mem_map.1 hn;exact key _ _ (h2 m hm)
theorem ZEp{p:List O}(h:(Aq p).any (λc=>!AG c)=true):(Af p).1=[]:=by
 rw[JA];split;·rfl
 ·rcases CN ((GV (Cq (Aq p))).bind Gc)with ho|⟨out,ho⟩;·rw[ho]
  ·rw[ho];simp only[h,ZHp,ZHa]
theorem tW{p:List O}(hb:BN p):∀d∈(Af p).1,AG d=true:=by
 by_cases h:(Aq p).any (λc=>!AG c)=true;·rw[ZEp h];simp
 ·refine tR (P:=λd=>AG d=true) (λd c=>ZCh) (λc _ hc=>ZAX (AG.lin hc)) hb λd hd=>?_;cases hc:AG d with|true=>rfl|false=>exact absurd (List.any_eq_true.2 ⟨d,hd,by rw[hc];rfl⟩) h
theorem tV{p:List O}(hb:BN p):Cv (Af p).1:=⟨by have :=bX p;omega,tW hb⟩
theorem Cv.B{p:List O}(h:Cv p):BN p:=⟨by have :=h.1;omega,λc hc=>AG.condB (h.2 c hc)⟩
theorem Cv.name{p:List O}(h:Cv p):nameOk p:=by
 refine⟨by have :=h.1;omega,λc hc=>?_⟩;have hv:=h.2 c hc;obtain⟨h1,h2,h3⟩:=Bo.b (AG.lin hv);refine⟨by omega,λn hn=>by have :=h2 n hn;omega,λn hn=>?_⟩;have hk:=AG.kind hv;simp only[ZGe,ZIc,ZJZ]at hn;rcases hn with rfl|rfl|rfl;·omega
 ·omega
 ·omega
theorem XP{α:Type}:∀(l:List (List α))(i:Nat),(l.take i).flatten.length≤l.flatten.length|[],i=>by simp|x::l,0=>by simp|x::l,i+1=>by have :=XP l i;simp only[ZIw,ZIV,ZGI];omega
theorem TY{α:Type}{l:List (List α)}{i:Nat}(h:i<l.length):(l.take (i+1)).flatten=(l.take i).flatten++l.getD i []:=by rw[B0 [] h];simp
theorem Ex.spec(l:List (List O))(hp:Ex.pre (l,())):Ex.wp l λr=>r=Ex.fn (l,()):=by
 obtain⟨hl,ht⟩:=hp;simp only at hl ht;have hfn:Ex.fn (l,())=l.flatten:=rfl;simp only[Ex.wp,hfn];refine Lp.iter l.length (λi y=>y=((i:Int),(((l.take i).flatten.length:Nat):Int))) rfl ?_;rintro i y hle rfl R hR;by_cases e:i<l.length;·have h1:=XP l (i+1);rw[TY e,ZGI]at h1;simp only[ZGB (show(i:Int)<(l.length:Int)by omega),ZGD,ZGC,ZGF (show¬(((l.take i).flatten.length:Nat):Int)+((l.getD i []).length:Int)<0 by omega),ZF9];refine⟨⟨by omega,by omega⟩,⟨by omega,by omega⟩,⟨by omega,by omega⟩,hR e _ ?_⟩;rw[TY e,ZGI];rfl
 ·have :i=l.length:=by omega
  subst this;clear hR hle;have kS:∀{body:Int×List O→(Int×List O→Prop)→Prop},(∀i R,i<l.length→AA .i64 ((i:Int)+1)→R ((i:Int)+1,(l.take i).flatten++l.getD i [])→body ((i:Int),(l.take i).flatten) R)→(∀R,body ((l.length:Int),l.flatten) R)→Lp body (0,[]):=by
   intro body Gm hb2;refine Lp.iter l.length (λi y=>y=((i:Int),(l.take i).flatten)) (by simp) ?_;rintro i y hle rfl R hR;by_cases e:i<l.length;·refine Gm i R e ⟨by omega,by omega⟩ ?_;rw[←TY e];exact hR e _ rfl
   ·have :i=l.length:=by omega
    subst this;rw[ZGN];exact hb2 R
  simp only[ZGN,ZGH,ZGQ,ZF9,ZGF (show¬((l.flatten.length:Nat):Int)<0 by omega),Int.sub_zero,Int.sub_self];refine⟨⟨by omega,by omega⟩,⟨by omega,by omega⟩,?_⟩;have Gm:∀i,i<l.length→(((l.take i).flatten.length+(l.getD i []).length)*48≤140737488355328∧(l.take i).flatten.length+(l.getD i []).length≤9223372036854775807)∧0≤(i:Int)∧(i:Int)<(l.length:Int):=λi hi=>by have h1:=XP l (i+1);rw[TY hi,ZGI]at h1;omega
  by_cases h0:0<l.flatten.length
  ·simp only[ZGB (show(0:Int)<(l.flatten.length:Int)by omega),ZGC];refine⟨⟨by omega,by omega⟩,⟨by omega,by omega,by omega⟩,⟨by omega,by omega⟩,kS (λi R hi hf hR=>?_) λR=>?_⟩;·simp only[ZGB (show(i:Int)<(l.length:Int)by omega),ZGD,ZGC];exact⟨(Gm i hi).2,(Gm i hi).1,hf,hR⟩
   ·simp only[ZGH,ZGQ,ZF9]
  ·simp only[ZGF (show¬(0:Int)<(l.flatten.length:Int)by omega),ZF9];refine kS (λi R hi hf hR=>?_) λR=>?_;·simp only[ZGB (show(i:Int)<(l.length:Int)by omega),ZGD,ZGC];exact⟨(Gm i hi).2,(Gm i hi).1,hf,hR⟩
   ·simp only[ZGH,ZGQ,ZF9]
theorem KW{α τ:Type}{f:τ→α→Option τ}{l:List α}{d:α}{i:Nat}{a t:τ}(h:(l.take i).foldlM f a=some t)(hi:i<l.length):(l.take (i+1)).foldlM f a=f t (l.getD i d):=by rw[B0 d hi,ZHq,h];show(f _ _).bind _=_;cases f t (l.getD i d)<;>rfl
theorem NM{α τ:Type}{f:τ→α→Option τ}{l:List α}{d:α}{i:Nat}{a t:τ}(h:(l.take i).foldlM f a=some t)(hi:i<l.length)(hn:f t (l.getD i d)=none):l.foldlM f a=none:=by rw[←ZHv (i+1) l,ZHq,KW (d:=d) h hi,hn];rfl
def F7(out:List (List O))(m:ByteArray→Option Bool):Prop:=∀q,m (CP (DP q))=if q∈out then some true else none
theorem F7.nil:F7 [] λ_=>none:=λq=>by simp
theorem F7.put{out:List (List O)}{m:ByteArray→Option Bool}(h:F7 out m)(p:List O):F7 (out++[p]) (Bu m (CP (DP p)) true):=by
 intro q;simp only[Bu,qB,ZGa,ZGT];by_cases e:q=p;·rw[ZGE e,ZGE (.inr e)]
 ·rw[ZGA e,h q];by_cases e2:q∈out;·rw[ZGE e2,ZGE (.inl e2)]
  ·rw[ZGA e2,ZGA λh=>h.elim e2 e]
theorem OM{p:List O}{out:List (List O)}{m:ByteArray→Option Bool}{EA K1 EB K2:Prop}(hp:BN p)(hk:F7 out m)(hl:out.length≤400)(hA:(Af p).2.2=3→BT out p=none→EA)(h1:BT out p=some out→K1)(hB:BT out p=none→EB)(h2:BT out p=some (out++[(Af p).1])→K2):AD.pre (p,())∧cond (((AD.fn (p,())).2).2 !=(0:Int)) EA (((!((AD.fn (p,())).2).1)=true→(!((AD.fn (p,())).2).1)=true∧A1.pre ((AD.fn (p,())).1,()))∧((!((AD.fn (p,())).2).1)=true→(!((AD.fn (p,())).2).1)=true∧(!((AD.fn (p,())).2).1)=true∧True)∧(((AD.fn (p,())).2).1=false→(!((AD.fn (p,())).2).1)=true)∧cond (((AD.fn (p,())).2).1||Option.getD (m (A1.fn ((AD.fn (p,())).1,()))) false) K1 (A1.pre ((AD.fn (p,())).1,())∧((List.length out+List.length [(AD.fn (p,())).1])*24≤140737488355328∧List.length out+List.length [(AD.fn (p,())).1]≤9223372036854775807)∧cond (decide ((400:Int)<(( List.length (out++[(AD.fn (p,())).1]):Nat):Int))) EB K2)):=by
 have hn:A1.pre ((Af p).1,()):=(tV hp).name;refine⟨hp,?_⟩;simp only[AD.fn,A1.fn];by_cases he:(Af p).2.2=0
 ·simp only[he,ZGb,ZF9];have hs:BT out p=if(Af p).2.1=true∨(Af p).1∈out then some out else if 400<out.length+1 then none else some (out++[(Af p).1]):=by unfold BT;exact ZGA λh=>h he
  refine⟨λh=>⟨h,hn⟩,λh=>⟨h,h,trivial⟩,λh=>by rw[h];rfl,?_⟩;have hb:((Af p).2.1||(m (CP (DP (Af p).1))).getD false)=decide ((Af p).2.1=true∨(Af p).1∈out):=by
   rw[hk];by_cases e:(Af p).1∈out;·rw[ZGE e];simp[e]
   ·rw[ZGA e];simp[e]
  rw[hb];by_cases e:(Af p).2.1=true∨(Af p).1∈out;·rw[ZGB e];exact h1 (hs.trans (ZGE e))
  ·rw[ZGF e];rw[ZGA e]at hs;refine⟨hn,⟨by simp;omega,by simp;omega⟩,?_⟩;by_cases e2:400<out.length+1;·rw[ZGB (show(400:Int)<((out++[(Af p).1]).length:Int)by simp;omega)];exact hB (hs.trans (ZGE e2))
   ·rw[ZGF (show¬(400:Int)<((out++[(Af p).1]).length:Int)by simp;omega)];exact h2 (hs.trans (ZGA e2))
 ·rw[bne_iff_ne.2 he];exact hA ((Ve p).resolve_left he).1 (ZGE he)
theorem tQ{out out':List (List O)}{p:List O}(h:BT out p=some out')(hl:out.length≤400):out'.length≤400:=by
 unfold BT at h;split at h;·cases h
 ·split at h;·cases h;exact hl
  ·split at h;·cases h
   ·cases h;simp;omega
theorem tP:∀{l:List (List O)}{out out':List (List O)},l.foldlM BT out=some out'→out.length≤400→out'.length≤400|[],out,out',h,hl=>by cases h;exact hl|p::l,out,out',h,hl=>by simp only[ZGc,ZGv,ZGs]at h;obtain⟨s,h1,h2⟩:=h;exact tP h2 (tQ h1 hl)
theorem Lp.tid{body:Int×List (List O)×(ByteArray→Option Bool)→(Int×List (List O)×(ByteArray→Option Bool)→Prop)→Prop}(l a:List (List O))(m0:ByteArray→Option Bool)(ha:F7 a m0)(hal:a.length≤400)(hl:l.length≤1048576*4)(h:∀(i:Nat)out m R,i<l.length→(i:Int)<(l.length:Int)→AA .i64 ((i:Int)+1)→F7 out m→out.length≤400→(BT out (l.getD i [])=some out→R ((i:Int)+1,out,m))→(BT out (l.getD i [])=some (out++[(Af (l.getD i [])).1])→R ((i:Int)+1,out++[(Af (l.getD i [])).1],Bu m (CP (DP (Af (l.getD i [])).1)) true))→(BT out (l.getD i [])=none→l.foldlM BT a=none)→body ((i:Int),out,m) R)(h2:∀out m R,l.foldlM BT a=some out→F7 out m→out.length≤400→body ((l.length:Int),out,m) R):Lp body (0,a,m0):=by
 refine Lp.iter l.length (λi y=>y.1=(i:Int)∧(l.take i).foldlM BT a=some y.2.1∧F7 y.2.1 y.2.2) ⟨rfl,rfl,ha⟩ ?_;rintro i⟨y,out,m⟩hle⟨hy,ht,hm⟩R hR;simp only at hy ht hm;subst hy;have hlen:=tP ht hal;by_cases e:i<l.length
 ·refine h i out m R e (by omega) ⟨by omega,by omega⟩ hm hlen (λhs=>hR e _ ⟨rfl,?_,hm⟩) (λhs=>hR e _ ⟨rfl,?_,hm.put _⟩) λhn=>NM ht e hn;·rw[KW (d:=[]) ht e,hs]
  ·rw[KW (d:=[]) ht e,hs]
 ·have :i=l.length:=by omega
  subst this;rw[ZGN]at ht;exact h2 out m R ht hm hlen
theorem AY.b{s:AM}(h:AY s=true):0≤s.1∧s.1≤12∧s.2.length≤400∧∀p∈s.2,p.length≤96∧∀c∈p,AG c=true∧(c.2.2.1.length:Int)=s.1:=by simp only[AY,ZGW,ZG0,ZHi,GS,ZIF]at h;obtain⟨⟨⟨h1,h2⟩,h3⟩,h4⟩:=h;refine⟨h1,h2,by omega,λp hp=>?_⟩;obtain⟨h5,h6⟩:=h4 p hp;exact⟨by omega,h6⟩
theorem AY.piece{s:AM}(h:AY s=true){p:List O}(hp:p∈s.2):p.length≤96∧∀c∈p,AG c=true:=by obtain⟨h1,h2⟩:=(AY.b h).2.2.2 p hp;exact⟨h1,λc hc=>(h2 c hc).1⟩
theorem AY.B{s:AM}(h:AY s=true){p:List O}(hp:p∈s.2):BN p:=by obtain⟨h1,h2⟩:=AY.piece h hp;exact⟨by omega,λc hc=>AG.condB (h2 c hc)⟩
theorem Ca.spec(x:AM):Ca.wp x λr=>r=Ca.fn (x,()):=by have hfn:Ca.fn (x,())=AX x:=rfl;simp only[Ca.wp,Cu.fn,hfn];cases hv:AY x with|false=>simp[AX,hv]|true=>
 have hn:AX x=GO x.1 (x.2.foldlM BT []):=by simp[AX,hv,Bg]
 simp only[ZGq,ZF9,hn];refine Lp.tid x.2 [] _ F7.nil (by simp) (by have :=(AY.b hv).2.2.1;omega) ?_ ?_
 ·intro i out m R e e2 hf hk hl h1 h2 h3;simp only[ZGB e2,ZGD,ZGC];refine⟨⟨by omega,by omega⟩,OM (AY.B hv (AV e)) hk hl (λh4 hn=>?_) (λhs=>⟨hf,h1 hs⟩) (λhn=>?_) λhs=>⟨hf,h2 hs⟩⟩;·simp only[AD.fn,h4,show((3:Int)!=0)=true from rfl,ZGC];rw[h3 hn];rfl
  ·rw[h3 hn];rfl
 ·intro out m R ht hk hl;simp only[ZGH,ZGQ,ZF9];rw[ht];rfl
theorem xO{x y:AM}(h:JJ x y=0):AY x=true∧AY y=true∧x.1=y.1:=by
 unfold JJ at h;split at h
 ·rename_i hv;split at h;·rename_i he;simp only[ZGW]at hv;exact⟨hv.1,hv.2,he⟩
  ·cases h
 ·cases h
theorem ZCc{c:O}(h1:(Dj c).2.2=0)(h2:(Dj c).2.1=0):AG (Dj c).1=true:=by
 unfold Dj at*;split at h1;·cases h1
 ·rename_i h;rw[ZGA h]at h2⊢;simp only at h2;cases hv:AG (Ae c).1 with|true=>rfl|false=>exact absurd ⟨h2,hv⟩ h
theorem ZFJ{n:Nat}(h:n≤12):AG (0,0,List.replicate n 0,0)=true:=by have :Bo (List.replicate n 0,0)=true:=oV (by simpa using h) λm hm=>by rw[(List.mem_replicate.1 hm).2];decide (by decide);simp[AG,this]
theorem qG{n:Nat}(hn:n≤12):∀{l out out':List O},l.foldlM (G0 n) out=some out'→(∀d∈out,AG d=true)→∀d∈out',AG d=true
 |[],out,out',h,h1=>by cases h;exact h1|c::l,out,out',h,h1=>by
  simp only[ZGc,ZGv,ZGs]at h;obtain⟨s,h2,h3⟩:=h;refine qG hn h3 ?_;have key:∀x,AG x=true→∀d∈out++[x],AG d=true:=λx hx d hd=>by
   rcases List.mem_append.1 hd with hd|hd;·exact h1 d hd
   ·simp only[ZGT]at hd;subst hd;exact hx
  unfold G0 at h2;split at h2;·cases h2
  ·rename_i he;split at h2;·cases h2;exact key _ (ZFJ hn)
   ·split at h2;·cases h2;exact h1
    ·cases h2;exact key _ (ZCc (by omega) (by omega))
theorem Uv{c:O}(hv:AG c=true):((Cr c).2=0∨(Cr c).2=3)∧(Cr c).1.length≤400∧∀d∈(Cr c).1,AG d=true:=by
 unfold Cr;rw[ZGA (by rw[hv];simp)];rcases CN ((CI c).foldlM (G0 c.2.2.1.length) [])with h|⟨out,h⟩;·rw[h];simp
 ·rw[h];simp only;split;·simp
  ·rename_i h2;exact⟨.inl rfl,by simp only;omega,qG (Bo.b (AG.lin hv)).1 h (by simp)⟩
theorem zB{a b:List O}(hb:Cv b){out out':List (List O)}{i:Nat}(hi:i<b.length)(h:F8 a b out i=some out'):out'.length≤out.length+400:=by
 have :=(Uv (hb.2 _ (AV (d:=U) hi))).2.1;unfold F8 at h;split at h;·cases h
 ·cases h;simp only[ZGI,ZGM];omega
theorem TH{a b:List O}(hb:Cv b):∀{l:List Nat}{out out':List (List O)},(∀i∈l,i<b.length)→l.foldlM (F8 a b) out=some out'→out'.length≤out.length+400*l.length|[],out,out',_,h=>by cases h;simp|i::l,out,out',hl,h=>by simp only[ZGc,ZGv,ZGs]at h;obtain⟨s,h1,h2⟩:=h;have :=zB hb (hl i (by simp)) h1;have :=TH hb (λj hj=>hl j (by simp[hj])) h2;simp only[ZGL];omega
theorem gB{a b:List O}(ha:Cv a)(hb:Cv b):∀{l:List Nat}{out out':List (List O)},(∀i∈l,i<b.length)→l.foldlM (F8 a b) out=some out'→(∀p∈out,BN p)→∀p∈out',BN p
 |[],out,out',_,h,h3=>by cases h;exact h3|i::l,out,out',hl,h,h3=>by
  simp only[ZGc,ZGv,ZGs]at h;obtain⟨s,h1,h2⟩:=h;refine gB ha hb (λj hj=>hl j (by simp[hj])) h2 ?_;have hn:=(Uv (hb.2 _ (AV (d:=U) (hl i (by simp))))).2.2;unfold F8 at h1;split at h1;·cases h1
  ·cases h1;intro p hp;rcases List.mem_append.1 hp with hp|hp;·exact h3 p hp
   ·obtain⟨o,ho,rfl⟩:=List.mem_map.1 hp;have h4:=ha.1;have h5:=hb.1;refine⟨by simp only[ZGI,ZGP,ZGL,ZGS];omega,λc hc=>AG.condB ?_⟩;rcases List.mem_append.1 hc with hc|hc;·exact ha.2 c hc
    ·rcases List.mem_append.1 hc with hc|hc;·exact hb.2 c (ZGl hc)
     ·simp only[ZGT]at hc;subst hc;exact hn _ ho
theorem TF{a b:List O}(ha:Cv a)(hb:Cv b):(CT a b).1.length≤1048576*4∧∀p∈(CT a b).1,BN p:=by
 unfold CT;split;·simp
 ·split;·exact⟨by simp,λp hp=>by simp only[ZGT]at hp;subst hp;exact ha.B⟩
  ·rcases CN ((List.range b.length).foldlM (F8 a b) [])with h|⟨out,h⟩;·rw[h];simp
   ·rw[h];have h1:=TH hb (λi hi=>List.mem_range.1 hi) h;have h2:=hb.1;simp only[ZGS,ZG4]at h1;exact⟨by simp only;omega,gB ha hb (λi hi=>List.mem_range.1 hi) h (by simp)⟩
theorem aD{n i:Nat}(h:i<n):(List.range n).getD i 0=i:=by rw[A6 (by simpa using h)];simp
theorem Fq.spec(a b:List O)(hp:Fq.pre (a,b,())):Fq.wp a b λr=>r=Fq.fn (a,b,()):=by
 obtain⟨ha,hb⟩:Cv a∧Cv b:=hp;have hal:=ha.1;have O8:=hb.1;have hfn:Fq.fn (a,b,())=CT a b:=rfl;have hab:BN (a++b):=⟨by simp only[ZGI];omega,λc hc=>(List.mem_append.1 hc).elim (λh=>AG.condB (ha.2 c h)) λh=>AG.condB (hb.2 c h)⟩;simp only[Fq.wp,hfn,Ex.fn,AD.fn,ZIV,ZKD,ZGZ];refine⟨⟨by simp,by simp only[ZIV,ZKD,ZGZ];exact hab.1⟩,hab,?_⟩;by_cases h0:(Af (a++b)).2.2=0
 ·simp only[h0,ZGb,ZF9];by_cases h1:(Af (a++b)).2.1=true;·simp only[h1,ZGC];simp[CT,h0,h1]
  ·rw[ZHs]at h1;simp only[h1,ZF9];have Co:CT a b=match(List.range b.length).foldlM (F8 a b) []with|none=>([],3)|some out=>(out,0):=by unfold CT;exact(ZGA λh=>h h0).trans (ZGA (by rw[h1];simp))
   have Gv:(List.range b.length).length=b.length:=by simp
   refine Lp.foldO (List.range b.length) 0 (F8 a b) [] (by omega) ?_ ?_
   ·intro i out R e e2 hf ht BC BJ;rw[Gv]at e e2;have C2:=TH hb (λj hj=>by have :=ZGl hj;simpa using this) ht;simp only[ZGS,ZGP,Gv]at C2;simp only[aD e,F8]at BC BJ;simp only[ZGB e2,ZGD,ZGC,G7.fn];have Ng:=Uv (hb.2 _ (AV (d:=U) e));refine⟨⟨by omega,by omega⟩,?_⟩;by_cases hn:(Cr (b.getD i U)).2=0
    ·simp only[hn,ZGb,ZF9];rw[ZGA λh=>h hn]at BC;have h4:=Ng.2.1;refine Lp.iter (Cr (b.getD i U)).1.length (λj y=>y=((j:Int),out++((Cr (b.getD i U)).1.take j).map λo=>a++(b.take i++[o]))) (by simp) ?_;rintro j y IJ rfl R' hR';by_cases e3:j<(Cr (b.getD i U)).1.length
     ·simp only[ZGB (show(j:Int)<((Cr (b.getD i U)).1.length:Int)by omega),ZGD,ZGC];refine⟨⟨by omega,by omega⟩,⟨by omega,by omega⟩,⟨by simp,?_⟩,⟨?_,?_⟩,⟨by omega,by omega⟩,hR' e3 _ ?_⟩;·simp only[ZIV,ZKD,ZGZ,ZGI,ZGP,ZGL,ZGS];omega
      ·simp only[ZGI,ZGM,ZGP,ZGL,ZGS];omega
      ·simp only[ZGI,ZGM,ZGP,ZGL,ZGS];omega
      ·rw[B0 U e3,ZGp];exact ZGr (Prod.mk ((j:Int)+1)) (ZGy _ _ _)
     ·have :j=(Cr (b.getD i U)).1.length:=by omega
      subst this;simp only[ZGH,ZGQ,ZF9,ZGN];exact⟨hf,BC _ rfl⟩
    ·simp only[bne_iff_ne.2 hn,ZGC];rw[Co,BJ (ZGE hn),Ng.1.resolve_left hn]
   ·intro out R ht;rw[Gv];simp only[ZGH,ZGQ,ZF9];rw[Co,ht]
 ·simp only[bne_iff_ne.2 h0,ZGC];rw[((Ve _).resolve_left h0).1];simp[CT,h0]
def PP(l:List (List O)):Prop:=l.length≤400∧∀p∈l,p.length≤96∧∀c∈p,AG c=true
theorem PP.v{l:List (List O)}(h:PP l){p:List O}(hp:p∈l):Cv p:=⟨by have :=(h.2 p hp).1;omega,(h.2 p hp).2⟩
theorem PP.nil:PP []:=⟨by simp,by simp⟩
theorem ZEk{out out':List (List O)}{p:List O}(h:BT out p=some out')(hl:PP out)(hp:BN p):PP out':=by
 refine⟨tQ h hl.1,?_⟩;unfold BT at h;split at h;·cases h
 ·split at h;·cases h;exact hl.2
  ·split at h;·cases h
   ·cases h;intro q hq;rcases List.mem_append.1 hq with hq|hq;·exact hl.2 q hq
    ·simp only[ZGT]at hq;subst hq;exact⟨bX p,tW hp⟩
theorem Vc:∀{l:List (List O)}{out out':List (List O)},l.foldlM BT out=some out'→PP out→(∀p∈l,BN p)→PP out'|[],out,out',h,hl,_=>by cases h;exact hl|p::l,out,out',h,hl,hb=>by simp only[ZGc,ZGv,ZGs]at h;obtain⟨s,h1,h2⟩:=h;exact Vc h2 (ZEk h1 hl (hb p (by simp))) λq hq=>hb q (by simp[hq])
abbrev Jp(b:List O)(out:List (List O))(a:List O):Option (List (List O)):=if(CT a b).2≠0 then none else(CT a b).1.foldlM BT out
theorem Wd{b:List O}(hb:Cv b):∀{l out out':List (List O)},l.foldlM (Jp b) out=some out'→PP out→(∀p∈l,Cv p)→PP out'
 |[],out,out',h,hl,_=>by cases h;exact hl|p::l,out,out',h,hl,hv=>by
  simp only[ZGc,ZGv,ZGs]at h;obtain⟨s,h1,h2⟩:=h;refine Wd hb h2 ?_ λq hq=>hv q (by simp[hq]);unfold Jp at h1;split at h1;·cases h1
  ·exact Vc h1 hl (TF (hv p (by simp)) hb).2
theorem pQ{cur cur':List (List O)}{b:List O}(h:Jc cur b=some cur')(hb:Cv b)(hc:PP cur):PP cur':=Wd hb h PP.nil λp hp=>hc.v hp
theorem Zi:∀{l:List (List O)}{cur cur':List (List O)},l.foldlM Jc cur=some cur'→PP cur→(∀p∈l,Cv p)→PP cur'|[],out,out',h,hl,_=>by cases h;exact hl|p::l,out,out',h,hl,hv=>by simp only[ZGc,ZGv,ZGs]at h;obtain⟨s,h1,h2⟩:=h;exact Zi h2 (pQ h1 (hv p (by simp)) hl) λq hq=>hv q (by simp[hq])
theorem Rm{x:AM}(h:(AX x).2=0):PP (AX x).1.2∧(AX x).1.1=x.1:=by
 unfold AX at h⊢;split at h;·cases h
 ·rename_i hv;rw[ZGA hv];rw[Bool.not_eq_false]at hv;unfold GO at h⊢;rcases CN (Bg x.2)with ho|⟨out,ho⟩;·rw[ho]at h;cases h
  ·rw[ho];exact⟨Vc ho PP.nil λp hp=>AY.B hv hp,rfl⟩
end Go.Proofs.YtgpdnmfpgkkgcaaGreatDoor
