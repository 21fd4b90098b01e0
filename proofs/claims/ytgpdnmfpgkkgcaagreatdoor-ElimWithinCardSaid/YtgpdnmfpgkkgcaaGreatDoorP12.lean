/- Part of a proof that a law of the program holds for every input: what the functions answer, in plain Lean. No conditions. -/
import Derived.Test.YtgpdnmfpgkkgcaaGreatDoorP11
namespace Go.Proofs.YtgpdnmfpgkkgcaaGreatDoor
open Go
set_option linter.defProp false
def ZGw:=@decide_eq_true_iff
def ZHg:=@Bool.eq_iff_iff
def ZHk:=@List.getElem_set_self
def ZHz:=@List.getElem_range
def ZH9:=@List.getElem_map
def ZIC:=@Bool.and_true
def ZIE:=@Nat.mul_le_mul
def ZIR:=@List.all_append
def ZIZ:=@List.getElem_set_ne
def ZIj:=@List.all_cons
def ZJD:=@List.all_nil
def ZJv:=@or_congr
def ZJ6:=@List.any_eq_false
def ZKA:=@Int.tdiv_neg
def ZKH:=@Int.tmod_eq_zero_of_dvd
def ZKY:=@Int.natAbs_mul
def ZKg:=@Int.natAbs_of_nonneg
def ZKj:=@List.mem_of_mem_drop
def ZKm:=@or_assoc
def ZKs:=@Int.mul_tdiv_cancel
def ZLH:=@Int.neg_neg
set_option linter.unusedSimpArgs false
set_option linter.unusedVariables false
theorem Hg.spec(x y:AM):Hg.wp x y λr=>r=Hg.fn (x,y,()):=by
 have hfn:Hg.fn (x,y,())=D8 x y:=rfl;simp only[Hg.wp,Hj.fn,hfn,Ca.fn,Fq.fn];by_cases he:JJ x y=0
 ·have hM:D8 x y=if(AX x).2≠0∨(AX y).2≠0 then((0,[]),3)else GO x.1 ((AX y).1.2.foldlM Jc (AX x).1.2):=by unfold D8;exact ZGA λh=>h he
  simp only[he,ZGb,ZF9];refine⟨λh=>⟨h,trivial⟩,λh=>by rw[h];rfl,?_⟩;by_cases hx:(AX x).2=0
  ·by_cases hy:(AX y).2=0
   ·simp only[hx,hy,ZGb,ZIW,ZF9,ZJy,ZI8,or_self,ZHM]at hM⊢;obtain⟨pX,eX⟩:=Rm hx;obtain⟨pY,eY⟩:=Rm hy;simp only[eX];generalize(AX x).1.2=X at*;generalize(AX y).1.2=Y at*;have hYl:=pY.1;refine Lp.iter Y.length (λi z=>∃cur,z=((i:Int),(0:Int),x.1,cur,(0:Int))∧(Y.take i).foldlM Jc X=some cur) ⟨X,rfl,rfl⟩ ?_;rintro i z hle⟨cur,rfl,ht⟩R hR;have pC:=Zi ht pX λp hp=>pY.v (ZGl hp);by_cases e:i<Y.length
    ·simp only[ZGB (show(i:Int)<(Y.length:Int)by omega),ZGD,ZGC];refine⟨⟨by omega,by omega⟩,?_⟩;have Nu:=pY.v (AV (d:=[]) e);have hsn:=KW (d:=[]) ht e;have KB:=NM (d:=[]) ht e;have hT:Y.foldlM Jc X=none→D8 x y=((0,[]),3):=λh=>by rw[hM,h];rfl
     have hCl:=pC.1;refine Lp.iter cur.length (λj z=>z.1=(j:Int)∧(cur.take j).foldlM (Jp (Y.getD i [])) []=some z.2.1∧F7 z.2.1 z.2.2) ⟨rfl,rfl,F7.nil⟩ ?_;rintro j⟨z,o,mo⟩Q3⟨hz,HN,hm⟩R2 BJ;simp only at hz HN hm;subst hz;have pO:=Wd Nu HN PP.nil λp hp=>pC.v (ZGl hp);by_cases e2:j<cur.length
     ·simp only[ZGB (show(j:Int)<(cur.length:Int)by omega),ZGD,ZGC];have RN:=pC.v (AV (d:=[]) e2);have hsn2:=KW (d:=[]) HN e2;have Nh:Jp (Y.getD i []) o (cur.getD j [])=none→D8 x y=((0,[]),3):=λh=>hT (KB (NM (d:=[]) HN e2 h));refine⟨⟨by omega,by omega⟩,⟨RN,Nu⟩,?_⟩;by_cases hc:(CT (cur.getD j []) (Y.getD i [])).2=0
      ·have hct:Jp (Y.getD i []) o (cur.getD j [])=(CT (cur.getD j []) (Y.getD i [])).1.foldlM BT o:=ZGA λh=>h hc;rw[hct]at hsn2 Nh;simp only[hc,ZGb,ZF9];obtain⟨hcl,Xw⟩:=TF RN Nu;refine Lp.tid (CT (cur.getD j []) (Y.getD i [])).1 o mo hm pO.1 hcl ?_ ?_
       ·intro k out m R' e3 e4 hf hk hl h1 h2 h3;simp only[ZGB e4,ZGD,ZGC];refine⟨⟨by omega,by omega⟩,OM (Xw _ (AV e3)) hk hl (λh4 hn=>?_) (λhs=>⟨hf,h1 hs⟩) (λhn=>?_) λhs=>⟨hf,h2 hs⟩⟩;·simp only[AD.fn,h4,show((3:Int)!=0)=true from rfl,ZHp,ZGC];exact⟨λh=>by simp at h,λh=>by simp at h,(Nh (h3 hn)).symm⟩
        ·exact⟨λh=>by simp at h,λh=>by simp at h,(Nh (h3 hn)).symm⟩
       ·intro out m R' Kq hk hl;simp only[ZGH,ZGQ,ZF9];exact⟨⟨by omega,by omega⟩,BJ e2 _ ⟨rfl,hsn2.trans Kq,hk⟩⟩
      ·simp only[bne_iff_ne.2 hc,ZGC,ZGb,ZHo];exact⟨λh=>⟨rfl,trivial⟩,λ_=>rfl,(Nh (ZGE hc)).symm⟩
     ·have :j=cur.length:=by omega
      subst this;simp only[ZGH,ZGQ,ZF9,ZGb,Bool.or_self];rw[ZGN]at HN;exact⟨λh=>⟨rfl,trivial⟩,λ_=>rfl,⟨by omega,by omega⟩,hR e _ ⟨o,rfl,hsn.trans HN⟩⟩
    ·have :i=Y.length:=by omega
     subst this;simp only[ZGH,ZGQ,ZF9];rw[ZGN]at ht;rw[hM,ht];rfl
   ·simp only[bne_iff_ne.2 hy,ZHo,ZGC];rw[hM,ZGE (.inr hy)]
  ·simp only[bne_iff_ne.2 hx,ZHp,ZGC];rw[hM,ZGE (.inl hx)]
 ·rw[bne_iff_ne.2 he];simp[D8,he]
theorem If.spec(c:O):If.wp c λr=>r=If.fn (c,()):=rfl
theorem Hh.spec(p:List O)(n:Int):Hh.wp p n λr=>r=Hh.fn (p,n,()):=by
 have hfn:Hh.fn (p,n,())=Ed p n:=rfl;simp only[Hh.wp,hfn,Gb.fn,AD.fn,Ey.fn];refine⟨λh=>⟨h,trivial⟩,λh=>by rw[h];rfl,?_⟩;by_cases h1:n<0∨12<n
 ·have :(decide (n<0)||decide (12<n))=true:=by simpa using h1
  rw[this];simp[Ed,h1]
 ·have :(decide (n<0)||decide (12<n))=false:=by rw[ZGx]at h1;simp[h1]
  rw[this];have hs:Ed p n=if 384<p.length then([],false,3)else if p.any λc=>!AG c then([],false,1)else if GS p n=false then([],false,2)else Af p:=by unfold Ed;exact ZGA h1
  simp only[ZF9];by_cases h2:384<p.length;·rw[ZGB (show(384:Int)<(p.length:Int)by omega)];rw[hs,ZGE h2];rfl
  ·rw[ZGF (show¬(384:Int)<(p.length:Int)by omega)];rw[ZGA h2]at hs;refine⟨λ_ _=>trivial,?_⟩;cases h3:p.any λc=>!AG c with|true=>rw[h3]at hs;exact hs.symm|false=>rw[h3]at hs;simp only[ZF9,ZGh,ZHM]at hs⊢;cases h4:GS p n with|false=>rw[h4]at hs;exact hs.symm|true=>rw[h4]at hs;simp only[ZGq,ZF9,ZIz,ZHM]at hs⊢;refine⟨⟨(by omega:p.length≤1048576),λc hc=>AG.condB ?_⟩,hs.symm⟩;have :=List.any_eq_false.1 h3 c hc;simpa using this
theorem fX{n:Int}:DA n=true↔-4294967296≤n∧n≤4294967296:=by simp[DA]
theorem Ln{n m x y:Int}(hn:0≤n)(hm:0≤m)(h1:-n≤x)(h2:x≤n)(h3:-m≤y)(h4:y≤m):-(n*m)≤x*y∧x*y≤n*m:=by
 have h:(x*y).natAbs≤n.natAbs*m.natAbs:=by rw[ZKY];exact ZIE (by omega) (by omega)
 have e:n*m=((n.natAbs*m.natAbs:Nat):Int):=by rw[ZJg,ZKg hn,ZKg hm]
 rw[e];omega
def NF(s:Int)(p:Int×Int):Option Int:=if(DB p.1&&DA p.2)=true then some (s+p.1*p.2)else none
theorem gU:∀(a b:List Int)(s:Int),(a.zip b).foldlM NF s=if((a.zip b).all λp=>DB p.1&&DA p.2)=true then some (s+A0 a b)else none
 |[],b,s=>by simp[A0]|x::a,[],s=>by simp[A0]|x::a,y::b,s=>by
  simp only[List.zip_cons_cons,ZGc,ZIj,A0];by_cases h:(DB x&&DA y)=true;·have h2:NF s (x,y)=some (s+x*y):=ZGE h;rw[h2];show(a.zip b).foldlM NF (s+x*y)=_;simp only[gU a b,h,ZH2,Int.add_assoc]
  ·have h2:NF s (x,y)=none:=ZGA h;rw[h2];simp only[ZHs]at h;simp only[h,ZJB,ZGh,ZHM];rfl
theorem gV:∀{l:List (Int×Int)}{s t:Int},l.foldlM NF s=some t→s-4503599627370496*l.length≤t∧t≤s+4503599627370496*l.length
 |[],s,t,h=>by cases h;simp|p::l,s,t,h=>by
  simp only[ZGc,ZGv,ZGs]at h;obtain⟨u,h1,h2⟩:=h;have ih:=gV h2;unfold NF at h1;split at h1;·rename_i hp;cases h1;simp only[ZGW,TV,fX]at hp;have :=Ln (n:=1048576) (m:=4294967296) (by omega) (by omega) hp.1.1 hp.1.2 hp.2.1 hp.2.2;simp only[ZGL];omega
  ·cases h1
def A3(p:List O)(n:Nat):Prop:=∀c∈p,c.2.2.1.length=n
def ZC7(l:AN)(n k:Int):AN:=(l.1.map (·.tdiv n),k)
abbrev Dz.fn(x:AN×Int×Int×Unit):AN:=ZC7 x.1 x.2.1 x.2.2.1
abbrev Dz.pre(x:AN×Int×Int×Unit):Prop:=x.2.1≠0∧x.1.1.length≤1048576∧D7 x.1.1
abbrev Bi.fn(x:O×Unit):O×Int:=Ae x.1
abbrev Bi.pre(x:O×Unit):Prop:=condB x.1
def Cl(a b:O):Int:=if a.2.2.1=b.2.2.1 then 1 else if a.2.2.1=A5 b.2.2.1 then-1 else 0
abbrev Dn.fn(x:O×O×Unit):Int:=Cl x.1 x.2.1
abbrev Dn.pre(x:O×O×Unit):Prop:=x.1.2.2.1.length=x.2.1.2.2.1.length∧x.1.2.2.1.length≤1048576∧D7 x.2.1.2.2.1
abbrev Er.fn(x:List Int×List Int×Unit):Int:=Bh x.1 x.2.1
abbrev Er.pre(x:List Int×List Int×Unit):Prop:=x.1.length=x.2.1.length
abbrev G3.fn(x:Int×Unit):Int:=C8 x.1
abbrev F4.fn(x:AN×AN×Unit):Int:=Bh (x.1.1++[x.1.2]) (x.2.1.1++[x.2.1.2])
abbrev F4.pre(x:AN×AN×Unit):Prop:=x.1.1.length=x.2.1.1.length∧x.1.1.length≤1048576
abbrev Fk.fn(x:O×O×Unit):Int:=EE x.1 x.2.1
abbrev Fk.pre(x:O×O×Unit):Prop:=x.1.2.2.1.length=x.2.1.2.2.1.length∧x.1.2.2.1.length≤1048576
abbrev Fm.fn(x:List O×Unit):List O:=BB x.1
abbrev Fm.pre(x:List O×Unit):Prop:=x.1.length≤2199023255552∧∃n,n≤1048576∧A3 x.1 n
def Rs(p:List O):Prop:=BN p∧∃n,A3 p n
abbrev Dm.fn(x:List O×Unit):List O×Bool×Int:=Af x.1
abbrev Dm.pre(x:List O×Unit):Prop:=Rs x.1
abbrev Hc.fn(x:List (List O)×List O×Unit):Bool:=decide (x.2.1∈x.1)
def Hf(out:List (List O))(p:List O):Option (List (List O)):=if(Af p).2.2≠0 then none else if(Af p).2.1=true∨(Af p).1∈out then some out else some (out++[(Af p).1])
def OA(l:List (List O)):List (List O)×Int:=match l.foldlM Hf []with|none=>([],3)|some out=>(out,0)
abbrev EN.fn(x:List (List O)×Unit):List (List O)×Int:=OA x.1
abbrev EN.pre(x:List (List O)×Unit):Prop:=x.1.length≤1099511627776∧∀p∈x.1,Rs p
abbrev EF.fn(x:Int×List (List O)×Unit):AM×Int:=GO x.1 (Bg x.2.1)
abbrev EF.pre(x:Int×List (List O)×Unit):Prop:=x.2.1.length≤1099511627776∧∀p∈x.2.1,Rs p
abbrev FK.fn(x:AM×Unit):AM×Int:=AX x.1
abbrev EZ.fn(x:List O×List O×Unit):List O:=x.1++x.2.1
abbrev EZ.pre(x:List O×List O×Unit):Prop:=x.1.length≤1048576∧x.2.1.length≤1048576
def BD(a:Int)(l:AN)(b:Int)(m:AN):AN:=((List.range l.1.length).map λi=>a*l.1.getD i 0+b*m.1.getD i 0,a*l.2+b*m.2)
def Hk(l:AN):Prop:=l.1.length≤1048576∧(∀n∈l.1,-4294967296≤n∧n≤4294967296)∧-4294967296≤l.2∧l.2≤4294967296
abbrev BY.fn(x:Int×AN×Int×AN×Unit):AN:=BD x.1 x.2.1 x.2.2.1 x.2.2.2.1
abbrev BY.pre(x:Int×AN×Int×AN×Unit):Prop:=(-1048576≤x.1∧x.1≤1048576)∧Hk x.2.1∧(-1048576≤x.2.2.1∧x.2.2.1≤1048576)∧Hk x.2.2.2.1∧x.2.1.1.length=x.2.2.2.1.1.length
abbrev Ha.fn(x:O×Unit):List O×Int:=Cr x.1
abbrev H2.fn(x:AM×AM×Unit):AM×Int:=D8 x.1 x.2.1
abbrev H3.fn(x:List O×Int×Unit):List O×Bool×Int:=Ed x.1 x.2.1
abbrev Fj.fn(x:AN×List Int×Unit):Int:=x.1.2+A0 x.1.1 x.2.1
def Oa(c:O)(p:List Int):Prop:=AG c=true∧c.2.2.1.length=p.length∧∀n∈p,DA n=true
abbrev Fj.pre(x:AN×List Int×Unit):Prop:=Bo x.1=true∧x.1.1.length=x.2.1.length∧∀n∈x.2.1,DA n=true
def BI(c:O)(p:List Int):Bool:=JB c (c.2.2.2+A0 c.2.2.1 p)
abbrev Fl.fn(x:O×List Int×Unit):Bool:=BI x.1 x.2.1
abbrev Fl.pre(x:O×List Int×Unit):Prop:=Oa x.1 x.2.1
abbrev Ea.fn(x:List O×List Int×Unit):Bool:=x.1.all λc=>BI c x.2.1
abbrev Ea.pre(x:List O×List Int×Unit):Prop:=∀c∈x.1,Oa c x.2.1
abbrev Cs.fn(x:AM×List Int×Unit):Bool:=x.1.2.any λp=>p.all λc=>BI c x.2.1
abbrev Cs.pre(x:AM×List Int×Unit):Prop:=∀p∈x.1.2,∀c∈p,Oa c x.2.1
abbrev IZ.fn(x:Int×Unit):Bool:=DA x.1
abbrev Es.fn(x:List Int×Unit):Bool:=x.1.all DA
def Oq(m:Int)(l:List AM):Bool:=l.all λs=>s.2.all λp=>decide ((p.length:Int)≤m)
def Ot(l:List AM):Int:=l.foldl (λn s=>IntKind.wrap .i64 (n+(s.2.length:Int))) 0
abbrev CH.fn(x:Int×Int×List AM×Unit):Bool:=Oq x.2.1 x.2.2.1&&decide (Ot x.2.2.1≤x.1)
set_option maxRecDepth 4000
def G4.wp(x0:Bool)(Q:O×Int→Prop):Prop:=cond x0 (Q (U,1)) (Q (U,-1))
def Dz.wp(x0:AN)(x1:Int)(x2:Int)(Q:AN→Prop):Prop:=(0≤(x0.1.length:Int)∧x0.1.length≤(x0.1.length:Int)∧x0.1.length*((8:Nat):Int)≤140737488355328∧(x0.1.length:Int)≤9223372036854775807)∧Lp (σ:=Int×List Int) (λy4 R4=>let v2:=x0.1.getD y4.1.toNat 0;cond (decide (y4.1<x0.1.length)) ((0≤y4.1∧y4.1<x0.1.length)∧(x1≠0∧AA .i64 (Int.tdiv v2 x1))∧(0≤y4.1∧y4.1<y4.2.length)∧Int.toNat y4.1<y4.2.length∧AA .i64 (y4.1+1)∧R4 ( y4.1+1,List.set y4.2 y4.1.toNat (Int.tdiv v2 x1))) (Q (y4.2,x2))) (0,.replicate (Int.toNat x0.1.length) 0)
def Bi.wp(x0:O)(Q:O×Int→Prop):Prop:=let v0:=Fi.fn (x0.2.2.1,());let v2:=Dl.fn (x0.2.2.2,(v0.1,()));let v5:=G4.fn (false,());let v7:=Int.tdiv x0.2.2.2 (-v0.1);let v9:=Dz.fn (x0.2.2,(v0.1,(Int.tdiv x0.2.2.2 v0.1,())));let v15:=List.length ([]:List Int);let v18:=C9.fn (x0.2.2.2,(x0.2.1,()));Fi.pre (x0.2.2.1,())∧cond (x0.1==0) (cond (v0.1==0) (Q (G4.fn (decide (0≤x0.2.2.2),()))) (Dl.pre (x0.2.2.2,(v0.1,()))∧Dz.pre (x0.2.2,(v0.1,(v2.1,())))∧Q ((0,(0,Dz.fn (x0.2.2,(v0.1,(v2.1,()))))),0))) (cond (x0.1==1) (cond (v0.1==0) (Q (G4.fn ( x0.2.2.2==0,()))) (v0.1≠0∧cond (Int.tmod x0.2.2.2 v0.1 !=0) (Q v5) (Lp (σ:=Int) (λy2 R2=>let v6:=x0.2.2.1.getD y2.toNat 0;cond (decide (y2<x0.2.2.1.length)) ((0≤y2∧y2<x0.2.2.1.length)∧cond (v6 !=0) (cond (decide (v6<0)) (AA .i64 (-v0.1)∧(-v0.1≠0∧AA .i64 v7)∧Dz.pre (x0.2.2,(-v0.1,(v7,())))∧Q ((1,(0,Dz.fn (x0.2.2,(-v0.1,(v7,()))))),0)) ((v0.1≠0∧AA .i64 (Int.tdiv x0.2.2.2 v0.1))∧Dz.pre (x0.2.2,(v0.1,(Int.tdiv x0.2.2.2 v0.1,())))∧Q ((1,(0,v9)),0))) (AA .i64 (y2+1)∧R2 (y2+1))) ((v0.1≠0∧AA .i64 (Int.tdiv x0.2.2.2 v0.1))∧Dz.pre (x0.2.2,(v0.1,(Int.tdiv x0.2.2.2 v0.1,())))∧Q ((1,(0,v9)),0))) 0))) ((0≤(x0.2.2.1.length:Int)∧x0.2.2.1.length≤(x0.2.2.1.length:Int)∧x0.2.2.1.length*((8:Nat):Int)≤140737488355328∧(x0.2.2.1.length:Int)≤9223372036854775807)∧Lp (σ:=Int×List Int) (λy2 R2=>let v12:=x0.2.2.1.getD y2.1.toNat 0;let v16:=List.length (([]:List Int)++y2.2);let v17:=Fi.fn (([]:List Int)++y2.2++[x0.2.1],());cond (decide (y2.1<x0.2.2.1.length)) ((0≤y2.1∧y2.1<x0.2.2.1.length)∧C9.pre (v12,(x0.2.1,()))∧(0≤y2.1∧y2.1<y2.2.length)∧Int.toNat y2.1<y2.2.length∧AA .i64 (y2.1+1)∧R2 ( y2.1+1,List.set y2.2 y2.1.toNat (C9.fn (v12,(x0.2.1,()))).1)) (C9.pre (x0.2.2.2,(x0.2.1,()))∧((v15+y2.2.length)*8≤140737488355328∧v15+y2.2.length≤9223372036854775807)∧((v16+List.length [x0.2.1])*8≤140737488355328∧v16+List.length [x0.2.1]≤9223372036854775807)∧Fi.pre (([]:List Int)++y2.2++[x0.2.1],())∧v17.1≠0∧cond (Int.tmod v18.1 v17.1 !=0) (Q v5) (cond (x0.2.1==v17.1) (Q (G4.fn (true,()))) ((v17.1≠0∧AA .i64 (Int.tdiv x0.2.1 v17.1))∧(v17.1≠0∧AA .i64 (Int.tdiv v18.1 v17.1))∧Dz.pre ((y2.2,v18.1),(v17.1,(Int.tdiv v18.1 v17.1,())))∧Q ((2,(Int.tdiv x0.2.1 v17.1,Dz.fn ((y2.2,v18.1),(v17.1,(Int.tdiv v18.1 v17.1,()))))),0))))) (0,.replicate (Int.toNat x0.2.2.1.length) 0)))
def Dn.wp(x0:O)(x1:O)(Q:Int→Prop):Prop:=Lp (σ:=Int×Bool×Bool) (λy3 R3=>let v0:=x1.2.2.1.getD y3.1.toNat 0;let v1:=x0.2.2.1.getD y3.1.toNat 0;cond (decide (y3.1<x0.2.2.1.length)) ((y3.2.2=true→y3.2.2=true∧True)∧(y3.2.2=true→y3.2.2=true∧True)∧(y3.2.2=true→y3.2.2=true∧y3.2.2=true∧0≤y3.1∧y3.1<x0.2.2.1.length)∧(y3.2.2=true→y3.2.2=true∧True)∧(y3.2.2=true→y3.2.2=true∧True)∧(y3.2.2=true→y3.2.2=true∧True)∧(y3.2.2=true→y3.2.2=true∧y3.2.2=true∧0≤y3.1∧y3.1<x1.2.2.1.length)∧(y3.2.2=true→y3.2.2=true∧True)∧(y3.2.2=true→y3.2.2=true∧y3.2.2=true∧True)∧(y3.2.2=true→y3.2.2=true)∧(y3.2.1=true→y3.2.1=true∧True)∧(y3.2.1=true→y3.2.1=true∧True)∧(y3.2.1=true→y3.2.1=true∧y3.2.1=true∧0≤y3.1∧y3.1<x0.2.2.1.length)∧(y3.2.1=true→y3.2.1=true∧True)∧(y3.2.1=true→y3.2.1=true∧True)∧(y3.2.1=true→y3.2.1=true∧True)∧(y3.2.1=true→y3.2.1=true∧y3.2.1=true∧0≤y3.1∧y3.1<x1.2.2.1.length)∧(y3.2.1=true→y3.2.1=true∧True)∧(y3.2.1=true→y3.2.1=true∧AA .i64 (-v0))∧(y3.2.1=true→y3.2.1=true∧y3.2.1=true∧True)∧(y3.2.1=true→y3.2.1=true)∧AA .i64 (y3.1+1)∧R3 ( y3.1+1,( y3.2.1&&v1==-v0,y3.2.2&&v1==v0))) (cond y3.2.2 (Q 1) (cond y3.2.1 (Q (-1)) (Q 0)))) (0,(true,true))
def Er.wp(x0:List Int)(x1:List Int)(Q:Int→Prop):Prop:=Lp (σ:=Int) (λy3 R3=>let v0:=x0.getD y3.toNat 0;let v1:=x1.getD y3.toNat 0;cond (decide (y3<x0.length)) ((0≤y3∧y3<x0.length)∧(0≤y3∧y3<x1.length)∧cond (decide (v0<v1)) (Q (-1)) ((0≤y3∧y3<x0.length)∧(0≤y3∧y3<x1.length)∧cond (decide (v1<v0)) (Q 1) (AA .i64 (y3+1)∧R3 (y3+1)))) (Q 0)) 0
def G3.wp(x0:Int)(Q:Int→Prop):Prop:=cond (x0==1) (Q 0) (cond (x0==0) (Q 1) (Q 2))
def F4.wp(x0:AN)(x1:AN)(Q:Int→Prop):Prop:=let v0:=List.length ([]:List Int);let v1:=List.length (([]:List Int)++x0.1);let v2:=List.length (([]:List Int)++x1.1);((v0+x0.1.length)*8≤140737488355328∧v0+x0.1.length≤9223372036854775807)∧((v1+List.length [x0.2])*8≤140737488355328∧v1+List.length [x0.2]≤9223372036854775807)∧((v0+x1.1.length)*8≤140737488355328∧v0+x1.1.length≤9223372036854775807)∧((v2+List.length [x1.2])*8≤140737488355328∧v2+List.length [x1.2]≤9223372036854775807)∧Er.pre (([]:List Int)++x0.1++[x0.2],(([]:List Int)++x1.1++[x1.2],()))∧Q (Er.fn (([]:List Int)++x0.1++[x0.2],(([]:List Int)++x1.1++[x1.2],())))
def Fk.wp(x0:O)(x1:O)(Q:Int→Prop):Prop:=let v0:=G3.fn (x0.1,());let v1:=G3.fn (x1.1,());let v2:=Er.fn ([v0,x0.2.1],([v1,x1.2.1],()));Er.pre ([v0,x0.2.1],([v1,x1.2.1],()))∧cond (v2 !=0) (Q v2) (F4.pre (x0.2.2,(x1.2.2,()))∧Q (F4.fn (x0.2.2,(x1.2.2,()))))
def Fm.wp(x0:List O)(Q:List O→Prop):Prop:=let v4:=List.length ([]:List O);Lp (σ:=Int×List O) (λy2 R2=>let v1:=x0.getD y2.1.toNat U;cond (decide (y2.1<x0.length)) ((0≤y2.1∧y2.1<x0.length)∧Lp (σ:=Int) (λy4 R4=>let v0:=y2.2.getD y4.toNat U;let v5:=List.take y4.toNat y2.2;let v6:=List.length (([]:List O)++v5);let v7:=List.length (([]:List O)++v5++[v1]);let v8:=List.drop y4.toNat y2.2;(decide (y4<y2.2.length)=true→decide (y4<y2.2.length)=true∧decide (y4<y2.2.length)=true∧0≤y4∧y4<y2.2.length)∧(decide (y4<y2.2.length)=true→decide (y4<y2.2.length)=true∧True)∧(decide (y4<y2.2.length)=true→decide (y4<y2.2.length)=true∧decide (y4<y2.2.length)=true∧Fk.pre (v0,(v1,())))∧(decide (y4<y2.2.length)=true→decide (y4<y2.2.length)=true∧True)∧(decide (y4<y2.2.length)=true→decide (y4<y2.2.length)=true)∧cond (decide (y4<y2.2.length)&&decide ( Fk.fn (v0,(v1,()))<0)) (AA .i64 (y4+1)∧R4 (y4+1)) ((decide (y4<y2.2.length)=true→decide (y4<y2.2.length)=true∧decide (y4<y2.2.length)=true∧0≤y4∧y4<y2.2.length)∧(decide (y4<y2.2.length)=true→decide (y4<y2.2.length)=true∧True)∧(decide (y4<y2.2.length)=true→decide (y4<y2.2.length)=true∧decide (y4<y2.2.length)=true∧True)∧(decide (y4<y2.2.length)=true→decide (y4<y2.2.length)=true)∧cond (decide (y4<y2.2.length)&&GX.fn (v0,(v1,()))) (AA .i64 (y2.1+1)∧R2 ( y2.1+1,y2.2)) ((0≤y4∧y4≤y2.2.length)∧((v4+v5.length)*48≤140737488355328∧v4+v5.length≤9223372036854775807)∧((v6+List.length [v1])*48≤140737488355328∧v6+List.length [v1]≤9223372036854775807)∧(0≤y4∧y4≤y2.2.length)∧((v7+v8.length)*48≤140737488355328∧v7+v8.length≤9223372036854775807)∧AA .i64 (y2.1+1)∧R2 ( y2.1+1,([]:List O)++v5++[v1]++v8)))) 0) (Q y2.2)) (0,([]:List O))
def Dm.wp(x0:List O)(Q:List O×Bool×Int→Prop):Prop:=Lp (σ:=Int×Bool×List O×List O×List O) (λy2 R2=>let v0:=x0.getD y2.1.toNat U;let v1:=[(((Bi.fn (v0,())).1).1,((((Bi.fn (v0,())).1).2).1,(((Bi.fn (v0,())).1).2).2))];let v2:=EY.fn ((((Bi.fn (v0,())).1).1,((((Bi.fn (v0,())).1).2).1,(((Bi.fn (v0,())).1).2).2)),());cond (decide (y2.1<x0.length)) ((0≤y2.1∧y2.1<x0.length)∧Bi.pre (v0,())∧cond ((Bi.fn (v0,())).2==-1) (Q (([]:List O),(true,0))) (cond ((Bi.fn (v0,())).2==1) (AA .i64 (y2.1+1)∧R2 ( y2.1+1,y2.2)) (((!y2.2.1)=true→(!y2.2.1)=true∧True)∧((!y2.2.1)=true→(!y2.2.1)=true∧True)∧(y2.2.1=false→(!y2.2.1)=true)∧cond (((Bi.fn (v0,())).1).1==0) (((y2.2.2.1.length+v1.length)*48≤140737488355328∧y2.2.2.1.length+v1.length≤9223372036854775807)∧AA .i64 (y2.1+1)∧R2 ( y2.1+1,( y2.2.1||!v2,( y2.2.2.1++v1,y2.2.2.2)))) (cond (((Bi.fn (v0,())).1).1==1) (((y2.2.2.2.1.length+v1.length)*48≤140737488355328∧y2.2.2.2.1.length+v1.length≤9223372036854775807)∧AA .i64 (y2.1+1)∧R2 ( y2.1+1,( y2.2.1||!v2,(y2.2.2.1,( y2.2.2.2.1++v1,y2.2.2.2.2))))) (((y2.2.2.2.2.length+v1.length)*48≤140737488355328∧y2.2.2.2.2.length+v1.length≤9223372036854775807)∧AA .i64 (y2.1+1)∧R2 ( y2.1+1,( y2.2.1||!v2,(y2.2.2.1,(y2.2.2.2.1,y2.2.2.2.2++v1))))))))) (Lp (σ:=Int×List O) (λy4 R4=>let v4:=y2.2.2.1.getD y4.1.toNat U;cond (decide (y4.1<y2.2.2.1.length)) ((0≤y4.1∧y4.1<y2.2.2.1.length)∧Int.toNat y4.1<y2.2.2.1.length∧Lp (σ:=Int×Bool×List O) (λy6 R6=>let v3:=y6.2.2.getD y6.1.toNat U;cond (decide (y6.1<y4.2.length)) ((0≤y6.1∧y6.1<y6.2.2.length)∧Int.toNat y6.1<y6.2.2.length∧Dn.pre (v3,(v4,()))∧cond ( Dn.fn (v3,(v4,()))==1) ((0≤y6.1∧y6.1<y6.2.2.length)∧Int.toNat y6.1<y6.2.2.length∧(0≤y6.1∧y6.1<y6.2.2.length)∧Int.toNat y6.1<y6.2.2.length∧AA .i64 (y6.1+1)∧R6 ( y6.1+1,(true,List.set y6.2.2 y6.1.toNat (v3.1,(v3.2.1,(v3.2.2.1,Min.min v3.2.2.2 v4.2.2.2)))))) (AA .i64 (y6.1+1)∧R6 ( y6.1+1,y6.2))) (cond (!y6.2.1) (((y6.2.2.length+List.length [v4])*48≤140737488355328∧y6.2.2.length+List.length [v4]≤9223372036854775807)∧AA .i64 (y4.1+1)∧R4 ( y4.1+1,y6.2.2++[v4])) (AA .i64 (y4.1+1)∧R4 ( y4.1+1,y6.2.2)))) (0,(false,y4.2))) ((0≤(y4.2.length:Int)∧y4.2.length≤(y4.2.length:Int)∧y4.2.length*((1:Nat):Int)≤140737488355328∧(y4.2.length:Int)≤9223372036854775807)∧Lp (σ:=Int×List O×List Bool) (λy6 R6=>let v10:=y4.2.getD y6.1.toNat U;let v14:=Bi.fn ((1,(0,v10.2.2)),());cond (decide (y6.1<y4.2.length)) ((0≤y6.1∧y6.1<y4.2.length)∧Int.toNat y6.1<y4.2.length∧AA .i64 (y6.1+1)∧Lp (σ:=Int×List O×List Bool) (λy8 R8=>let v11:=y4.2.getD y8.1.toNat U;let v13:=List.set y8.2.2 y6.1.toNat true;cond (decide (y8.1<y4.2.length)) ((0≤y8.1∧y8.1<y4.2.length)∧Int.toNat y8.1<y4.2.length∧Dn.pre (v10,(v11,()))∧cond ( Dn.fn (v10,(v11,()))!=-1) (AA .i64 (y8.1+1)∧R8 ( y8.1+1,y8.2)) (AA .i64 (v10.2.2.2+v11.2.2.2)∧cond (decide ( v10.2.2.2+v11.2.2.2<0)) (Q (([]:List O),(true,0))) (AA .i64 (v10.2.2.2+v11.2.2.2)∧cond ( v10.2.2.2+v11.2.2.2==0) ((0≤y6.1∧y6.1<y8.2.2.length)∧Int.toNat y6.1<y8.2.2.length∧(0≤y8.1∧y8.1<v13.length)∧Int.toNat y8.1<v13.length∧Bi.pre ((1,(0,v10.2.2)),())∧((y8.2.1.length+List.length [v14.1])*48≤140737488355328∧y8.2.1.length+List.length [v14.1]≤9223372036854775807)∧AA .i64 (y8.1+1)∧R8 ( y8.1+1,( y8.2.1++[v14.1],List.set v13 y8.1.toNat true))) (AA .i64 (y8.1+1)∧R8 ( y8.1+1,y8.2))))) (AA .i64 (y6.1+1)∧R6 ( y6.1+1,y8.2))) ( y6.1+1,y6.2)) (Lp (σ:=Int×List Bool) (λy8 R8=>let v16:=y6.2.1.getD y8.1.toNat U;cond (decide (y8.1<y6.2.1.length)) ((0≤y8.1∧y8.1<y6.2.1.length)∧Int.toNat y8.1<y6.2.1.length∧(0≤y8.1∧y8.1≤y6.2.1.length)∧Lp (λy10 R10=>let v17:=y6.2.1.getD (0+Int.toNat y10) U;let v18:=Dn.fn (v16,(v17,()));cond (decide (y10<((Int.toNat y8.1:Nat):Int))) ((0≤y10∧y10<((Int.toNat y8.1:Nat):Int)∧0+Int.toNat y8.1≤y6.2.1.length)∧0+Int.toNat y10<y6.2.1.length∧Dn.pre (v16,(v17,()))∧((v18==1)=true→(v18==1)=true∧True)∧((v18==1)=true→(v18==1)=true∧True)∧((v18==1)=true→(v18==1)=true∧True)∧((v18==1)=true→(v18==1)=true∧True)∧((v18==1)=true→(v18==1)=true∧(v18==1)=true∧True)∧((v18==1)=true→(v18==1)=true)∧cond ( v18==1&&v16.2.2.2 !=v17.2.2.2) (Q (([]:List O),(true,0))) (AA .i64 (y10+1)∧R10 (y10+1))) (Lp (σ:=Int×List Bool) (λy12 R12=>let v19:=y12.2.getD y12.1.toNat false;let v20:=y4.2.getD y12.1.toNat U;let v21:=Dn.fn (v16,(v20,()));cond (decide (y12.1<y4.2.length)) ((0≤y12.1∧y12.1<y4.2.length)∧Int.toNat y12.1<y4.2.length∧(0≤y12.1∧y12.1<y12.2.length)∧Int.toNat y12.1<y12.2.length∧((!v19)=true→(!v19)=true∧(!v19)=true∧Dn.pre (v16,(v20,())))∧((!v19)=true→(!v19)=true∧True)∧(v19=false→(!v19)=true)∧cond (v19||v21==0) (AA .i64 (y12.1+1)∧R12 ( y12.1+1,y12.2)) (Dn.pre (v16,(v20,()))∧AA .i64 (v21*v16.2.2.2)∧AA .i64 (v20.2.2.2-v21*v16.2.2.2)∧cond (decide ( v20.2.2.2-v21*v16.2.2.2<0)) (Q (([]:List O),(true,0))) ((0≤y12.1∧y12.1<y12.2.length)∧Int.toNat y12.1<y12.2.length∧AA .i64 (y12.1+1)∧R12 ( y12.1+1,List.set y12.2 y12.1.toNat true)))) (AA .i64 (y8.1+1)∧R8 ( y8.1+1,y12.2))) (0,y8.2))) 0) (Lp (σ:=Int×List O) (λy10 R10=>let v24:=y4.2.getD y10.1.toNat U;let v25:=Fm.fn ( y10.2++y2.2.2.2.2,());cond (decide (y10.1<y4.2.length)) ((0≤y10.1∧y10.1<y4.2.length)∧Int.toNat y10.1<y4.2.length∧(0≤y10.1∧y10.1<y8.2.length)∧Int.toNat y10.1<y8.2.length∧cond (! y8.2.getD y10.1.toNat false) (((y10.2.length+List.length [v24])*48≤140737488355328∧y10.2.length+List.length [v24]≤9223372036854775807)∧AA .i64 (y10.1+1)∧R10 ( y10.1+1,y10.2++[v24])) (AA .i64 (y10.1+1)∧R10 ( y10.1+1,y10.2))) (((y10.2.length+y2.2.2.2.2.length)*48≤140737488355328∧y10.2.length+y2.2.2.2.2.length≤9223372036854775807)∧Fm.pre ( y10.2++y2.2.2.2.2,())∧((!y2.2.1)=true→(!y2.2.1)=true∧True)∧((!y2.2.1)=true→(!y2.2.1)=true∧True)∧(y2.2.1=false→(!y2.2.1)=true)∧cond (y2.2.1||decide (96<(v25.length:Int))) (Q (([]:List O),(false,3))) (Q (v25,(false,0))))) (0,y6.2.1))) (0,y6.2.2))) (0,(y2.2.2.2.1,.replicate (Int.toNat y4.2.length) false)))) (0,([]:List O)))) (0,(false,(([]:List O),(([]:List O),([]:List O)))))
def Hc.wp(x0:List (List O))(x1:List O)(Q:Bool→Prop):Prop:=Lp (σ:=Int) (λy3 R3=>cond (decide (y3<x0.length)) ((0≤y3∧y3<x0.length)∧cond (GY.fn ( x0.getD y3.toNat ([]:List O),(x1,()))) (Q true) (AA .i64 (y3+1)∧R3 (y3+1))) (Q false)) 0
def EN.wp(x0:List (List O))(Q:List (List O)×Int→Prop):Prop:=Lp (σ:=Int×List (List O)) (λy2 R2=>let v0:=x0.getD y2.1.toNat ([]:List O);let v1:=Dm.fn (v0,());cond (decide (y2.1<x0.length)) ((0≤y2.1∧y2.1<x0.length)∧Dm.pre (v0,())∧cond (v1.2.2 !=0) (Q (([]:List (List O)),v1.2.2)) (((!v1.2.1)=true→(!v1.2.1)=true∧(!v1.2.1)=true∧True)∧((!v1.2.1)=true→(!v1.2.1)=true∧True)∧((!v1.2.1)=true→(!v1.2.1)=true)∧cond ( !v1.2.1&&! Hc.fn (y2.2,(v1.1,()))) (((y2.2.length+List.length [v1.1])*24≤140737488355328∧y2.2.length+List.length [v1.1]≤9223372036854775807)∧AA .i64 (y2.1+1)∧R2 ( y2.1+1,y2.2++[v1.1])) (AA .i64 (y2.1+1)∧R2 ( y2.1+1,y2.2)))) (Q (y2.2,0))) (0,([]:List (List O)))
def EF.wp(x0:Int)(x1:List (List O))(Q:(Int×List (List O))×Int→Prop):Prop:=let v0:=EN.fn (x1,());EN.pre (x1,())∧( ! v0.2 !=0=true→(! v0.2 !=0)=true∧True)∧((! v0.2 !=0)=true→! v0.2 !=0=true∧True)∧((v0.2 !=0)=false→(! v0.2 !=0)=true)∧cond ( v0.2 !=0||decide (400<(v0.1.length:Int))) (Q ((0,([]:List (List O))),3)) (Q ((x0,v0.1),0))
def FK.wp(x0:Int×List (List O))(Q:(Int×List (List O))×Int→Prop):Prop:=cond (! CO.fn (x0,())) (Q ((0,([]:List (List O))),1)) (EF.pre (x0.1,(x0.2,()))∧Q (EF.fn (x0.1,(x0.2,()))))
def EZ.wp(x0:List O)(x1:List O)(Q:List O→Prop):Prop:=let v0:=List.length ([]:List O);let v1:=List.length (([]:List O)++x0);((v0+x0.length)*48≤140737488355328∧v0+x0.length≤9223372036854775807)∧((v1+x1.length)*48≤140737488355328∧v1+x1.length≤9223372036854775807)∧Q (([]:List O)++x0++x1)
def BY.wp(x0:Int)(x1:AN)(x2:Int)(x3:AN)(Q:AN→Prop):Prop:=(0≤(x1.1.length:Int)∧x1.1.length≤(x1.1.length:Int)∧x1.1.length*((8:Nat):Int)≤140737488355328∧(x1.1.length:Int)≤9223372036854775807)∧AA .i64 (x0*x1.2)∧AA .i64 (x2*x3.2)∧AA .i64 ( x0*x1.2+x2*x3.2)∧Lp (σ:=Int×List Int) (λy5 R5=>let v2:=x1.1.getD y5.1.toNat 0;let v3:=x3.1.getD y5.1.toNat 0;cond (decide (y5.1<x1.1.length)) ((0≤y5.1∧y5.1<x1.1.length)∧AA .i64 (x0*v2)∧(0≤y5.1∧y5.1<x3.1.length)∧AA .i64 (x2*v3)∧AA .i64 ( x0*v2+x2*v3)∧(0≤y5.1∧y5.1<y5.2.length)∧Int.toNat y5.1<y5.2.length∧AA .i64 (y5.1+1)∧R5 ( y5.1+1,List.set y5.2 y5.1.toNat ( x0*v2+x2*v3))) (Q (y5.2,x0*x1.2+x2*x3.2))) (0,.replicate (Int.toNat x1.1.length) 0)
def Ha.wp(x0:O)(Q:List O×Int→Prop):Prop:=let v1:=List.replicate (Int.toNat x0.2.2.1.length) 0;let v2:=BY.fn (-1,(x0.2.2,(-1,((v1,1),()))));let v9:=[(0,(0,(v1,0)))];cond (! EY.fn (x0,())) (Q (([]:List O),1)) ((0≤(x0.2.2.1.length:Int)∧x0.2.2.1.length≤(x0.2.2.1.length:Int)∧x0.2.2.1.length*((8:Nat):Int)≤140737488355328∧(x0.2.2.1.length:Int)≤9223372036854775807)∧Ge (σ:=List O×Bool×Bool×Int) (λy2=>Lp (σ:=Int×List O) (λy3 R3=>let v8:=y2.1.getD y3.1.toNat U;let v11:=[(((Bi.fn (v8,())).1).1,((((Bi.fn (v8,())).1).2).1,(((Bi.fn (v8,())).1).2).2))];cond (decide (y3.1<y2.1.length)) ((0≤y3.1∧y3.1<y2.1.length)∧Bi.pre (v8,())∧cond ((Bi.fn (v8,())).2==1) (((y3.2.length+v9.length)*48≤140737488355328∧y3.2.length+v9.length≤9223372036854775807)∧AA .i64 (y3.1+1)∧R3 ( y3.1+1,y3.2++v9)) ((((Bi.fn (v8,())).2==0)=true→((Bi.fn (v8,())).2==0)=true∧True)∧(((Bi.fn (v8,())).2==0)=true→((Bi.fn (v8,())).2==0)=true∧True)∧(((Bi.fn (v8,())).2==0)=true→((Bi.fn (v8,())).2==0)=true)∧cond ((Bi.fn (v8,())).2==0&&! EY.fn ((((Bi.fn (v8,())).1).1,((((Bi.fn (v8,())).1).2).1,(((Bi.fn (v8,())).1).2).2)),())) (Q (([]:List O),3)) (cond ((Bi.fn (v8,())).2==0) (((y3.2.length+v11.length)*48≤140737488355328∧y3.2.length+v11.length≤9223372036854775807)∧AA .i64 (y3.1+1)∧R3 ( y3.1+1,y3.2++v11)) (AA .i64 (y3.1+1)∧R3 ( y3.1+1,y3.2))))) (cond (decide (400<(y3.2.length:Int))) (Q (([]:List O),3)) (Q (y3.2,0)))) (0,([]:List O))) λJ2=>cond (x0.1==0) (BY.pre (-1,(x0.2.2,(-1,((v1,1),()))))∧J2 ([(0,(0,v2))],( x0.1==0,( x0.1==0,x0.1)))) (cond (x0.1==1) (BY.pre (1,(x0.2.2,(-1,((v1,1),()))))∧BY.pre (-1,(x0.2.2,(-1,((v1,1),()))))∧J2 ([(0,(0,BY.fn (1,(x0.2.2,(-1,((v1,1),())))))),(0,(0,v2))],( x0.1==0,( x0.1==0,x0.1)))) (Lp (σ:=Int×List O) (λy3 R3=>let v7:=[(2,(x0.2.1,BY.fn (1,(x0.2.2,(-y3.1,((v1,1),()))))))];cond (decide (y3.1<x0.2.1)) (AA .i64 (-y3.1)∧BY.pre (1,(x0.2.2,(-y3.1,((v1,1),()))))∧((y3.2.length+v7.length)*48≤140737488355328∧y3.2.length+v7.length≤9223372036854775807)∧AA .i64 (y3.1+1)∧R3 ( y3.1+1,y3.2++v7)) (J2 (y3.2,( x0.1==0,( x0.1==0,x0.1))))) (1,([]:List O)))))
def H2.wp(x0:Int×List (List O))(x1:Int×List (List O))(Q:(Int×List (List O))×Int→Prop):Prop:=let v0:=Hb.fn (x0,(x1,()));let v1:=FK.fn (x0,());let v2:=FK.fn (x1,());cond (v0 !=0) (Q ((0,([]:List (List O))),v0)) (((! v1.2 !=0)=true→(! v1.2 !=0)=true∧True)∧((v1.2 !=0)=false→(! v1.2 !=0)=true)∧cond ( v1.2 !=0||v2.2 !=0) (Q ((0,([]:List (List O))),3)) (Lp (σ:=Int×List (List O)) (λy3 R3=>let v4:=v2.1.2.getD y3.1.toNat ([]:List O);cond (decide (y3.1<v2.1.2.length)) ((0≤y3.1∧y3.1<v2.1.2.length)∧Lp (σ:=Int×List (List O)) (λy5 R5=>let v3:=y3.2.getD y5.1.toNat ([]:List O);let v5:=EZ.fn (v3,(v4,()));let v6:=Dm.fn (v5,());let v13:=EF.fn (x0.1,(y5.2,()));cond (decide (y5.1<y3.2.length)) ((0≤y5.1∧y5.1<y3.2.length)∧EZ.pre (v3,(v4,()))∧Dm.pre (v5,())∧cond (v6.2.2 !=0) (Q ((0,([]:List (List O))),v6.2.2)) (cond v6.2.1 (((y5.2.length+List.length [v3])*24≤140737488355328∧y5.2.length+List.length [v3]≤9223372036854775807)∧AA .i64 (y5.1+1)∧R5 ( y5.1+1,y5.2++[v3])) (Lp (σ:=Int×List (List O)) (λy7 R7=>let v8:=Ha.fn ( v4.getD y7.1.toNat U,());let v9:=List.take y7.1.toNat v4;let v10:=EZ.fn (v3,(v9,()));cond (decide (y7.1<v4.length)) ((0≤y7.1∧y7.1<v4.length)∧cond (v8.2 !=0) (Q ((0,([]:List (List O))),v8.2)) (Lp (σ:=Int×List (List O)) (λy9 R9=>let v11:=v8.1.getD y9.1.toNat U;let v12:=EZ.fn (v10,([v11],()));cond (decide (y9.1<v8.1.length)) ((0≤y9.1∧y9.1<v8.1.length)∧(0≤y7.1∧y7.1≤v4.length)∧EZ.pre (v3,(v9,()))∧EZ.pre (v10,([v11],()))∧((y9.2.length+List.length [v12])*24≤140737488355328∧y9.2.length+List.length [v12]≤9223372036854775807)∧AA .i64 (y9.1+1)∧R9 ( y9.1+1,y9.2++[v12])) (AA .i64 (y7.1+1)∧R7 ( y7.1+1,y9.2))) (0,y7.2))) (AA .i64 (y5.1+1)∧R5 ( y5.1+1,y7.2))) (0,y5.2)))) (EF.pre (x0.1,(y5.2,()))∧cond (v13.2 !=0) (Q ((0,([]:List (List O))),v13.2)) (AA .i64 (y3.1+1)∧R3 ( y3.1+1,v13.1.2)))) (0,([]:List (List O)))) (Q ((x0.1,y3.2),0))) (0,v1.1.2)))
def H3.wp(x0:List O)(x1:Int)(Q:List O×Bool×Int→Prop):Prop:=((! decide (x1<0))=true→(! decide (x1<0))=true∧True)∧(decide (x1<0)=false→(! decide (x1<0))=true)∧cond (decide (x1<0)||decide (12<x1)) (Q (([]:List O),(false,6))) (cond (decide (384<(x0.length:Int))) (Q (([]:List O),(false,3))) (Lp (σ:=Int×Int) (λy3 R3=>let v0:=x0.getD y3.1.toNat U;cond (decide (y3.1<x0.length)) ((0≤y3.1∧y3.1<x0.length)∧cond (! EY.fn (v0,())) (Q (([]:List O),(false,1))) (cond (v0.2.2.1.length !=x1) (AA .i64 (y3.1+1)∧R3 ( y3.1+1,2)) (AA .i64 (y3.1+1)∧R3 ( y3.1+1,y3.2)))) (cond (y3.2 !=0) (Q (([]:List O),(false,y3.2))) (Dm.pre (x0,())∧Q ((Dm.fn (x0,())).1,(Dm.fn (x0,())).2)))) (0,0)))
def Fj.wp(x0:AN)(x1:List Int)(Q:Int→Prop):Prop:=Lp (σ:=Int×Int) (λy3 R3=>let v0:=x0.1.getD y3.1.toNat 0;let v1:=x1.getD y3.1.toNat 0;cond (decide (y3.1<x0.1.length)) ((0≤y3.1∧y3.1<x0.1.length)∧(0≤y3.1∧y3.1<x1.length)∧AA .i64 (v0*v1)∧AA .i64 (y3.2+v0*v1)∧AA .i64 (y3.1+1)∧R3 ( y3.1+1,y3.2+v0*v1)) (Q y3.2)) (0,x0.2)
def Fl.wp(x0:O)(x1:List Int)(Q:Bool→Prop):Prop:=let v0:=Fj.fn (x0.2.2,(x1,()));Fj.pre (x0.2.2,(x1,()))∧cond (x0.1==0) (Q (decide (0≤v0))) (cond (x0.1==1) (Q (v0==0)) (x0.2.1≠0∧Q (Int.tmod v0 x0.2.1==0)))
def Ea.wp(x0:List O)(x1:List Int)(Q:Bool→Prop):Prop:=Lp (σ:=Int) (λy3 R3=>let v0:=x0.getD y3.toNat U;cond (decide (y3<x0.length)) ((0≤y3∧y3<x0.length)∧Fl.pre (v0,(x1,()))∧cond (! Fl.fn (v0,(x1,()))) (Q false) (AA .i64 (y3+1)∧R3 (y3+1))) (Q true)) 0
def Cs.wp(x0:Int×List (List O))(x1:List Int)(Q:Bool→Prop):Prop:=Lp (σ:=Int) (λy3 R3=>let v0:=x0.2.getD y3.toNat ([]:List O);cond (decide (y3<x0.2.length)) ((0≤y3∧y3<x0.2.length)∧Ea.pre (v0,(x1,()))∧cond (Ea.fn (v0,(x1,()))) (Q true) (AA .i64 (y3+1)∧R3 (y3+1))) (Q false)) 0
def IZ.wp(x0:Int)(Q:Bool→Prop):Prop:=(decide (-4294967296≤x0)=true→decide (-4294967296≤x0)=true∧True)∧(decide (-4294967296≤x0)=true→decide (-4294967296≤x0)=true)∧Q (decide (-4294967296≤x0)&&decide (x0≤4294967296))
def Es.wp(x0:List Int)(Q:Bool→Prop):Prop:=Lp (σ:=Int) (λy2 R2=>cond (decide (y2<x0.length)) ((0≤y2∧y2<x0.length)∧cond (! IZ.fn ( x0.getD y2.toNat 0,())) (Q false) (AA .i64 (y2+1)∧R2 (y2+1))) (Q true)) 0
def CH.wp(x0:Int)(x1:Int)(x2:List (Int×List (List O)))(Q:Bool→Prop):Prop:=Lp (σ:=Int×Int) (λy4 R4=>let v0:=x2.getD y4.1.toNat (0,([]:List (List O)));cond (decide (y4.1<x2.length)) ((0≤y4.1∧y4.1<x2.length)∧Lp (σ:=Int) (λy6 R6=>cond (decide (y6<v0.2.length)) ((0≤y6∧y6<v0.2.length)∧cond (decide (x1<((List.length (v0.2.getD y6.toNat ([]:List O)):Nat):Int))) (Q false) (R6 (IntKind.wrap .i64 (y6+1)))) (R4 ( IntKind.wrap .i64 (y4.1+1),IntKind.wrap .i64 (y4.2+v0.2.length)))) 0) (Q (decide (y4.2≤x0)))) (0,0)
theorem G4.spec(b:Bool):G4.wp b λr=>r=G4.fn (b,()):=by cases b<;>rfl
theorem Dz.spec(l:AN)(g k:Int)(hp:Dz.pre (l,g,k,())):Dz.wp l g k λr=>r=Dz.fn (l,g,k,()):=by
 obtain⟨h1,h2,h3⟩:=hp;simp only at h1 h2 h3;simp only[Dz.wp,ZGD];refine⟨⟨by omega,by omega,by omega,by omega⟩,?_⟩;refine Lp.fill l.1 0 0 (·.tdiv g) (by omega) (λi out R hi hi' hf ho hR=>?_) λR=>?_;·simp only[ZGB hi',ZGD];have hn:=h3 _ (AV (d:=0) hi);exact⟨⟨by omega,hi'⟩,⟨h1,Mx hn.1 hn.2⟩,⟨by omega,by omega⟩,by omega,hf,hR⟩
 ·simp only[ZGH,ZGQ,ZF9];rfl
theorem G3.spec(k:Int):G3.wp k λr=>r=G3.fn (k,()):=by
 simp only[G3.wp,G3.fn,C8];by_cases h:k=0;·subst h;rfl
 ·by_cases h2:k=1;·subst h2;rfl
  ·simp[h,h2]
theorem ZAl(l:List Int):∀g:Nat,l.foldl (λg n=>Nat.gcd g n.natAbs) g=Nat.gcd g (AW l):=by induction l with|nil=>intro g;simp[AW]|cons m l ih=>intro g;simp only[ZG3,AW];rw[ih,ih (Nat.gcd 0 m.natAbs),ZJU,Nat.gcd_assoc]
theorem Td(m:Int)(l:List Int):AW (m::l)=Nat.gcd m.natAbs (AW l):=by simp only[AW,ZG3];rw[ZAl,ZJU];rfl
theorem ZAs(m:Int)(l:List Int):AW (l++[m])=Nat.gcd (AW l) m.natAbs:=by simp only[AW,ZHC,ZG3,List.foldl_nil]
theorem ZAp(m:Int)(l:List Int):AW (l++[m])=AW (m::l):=by rw[Td,ZAs,ZK4]
theorem Bi.spec(c:O)(hp:Bi.pre (c,())):Bi.wp c λr=>r=Bi.fn (c,()):=by
 obtain⟨hk,hb⟩:condB c:=hp;obtain⟨h1,h2,h3⟩:=id hb;unfold CF at h3;have Hu:AW c.2.2.1≤9223372036854775807:=Te hb.ints;have hfn:Bi.fn (c,())=Ae c:=rfl;simp only[Bi.wp,Fi.fn,Dk.fn,G4.fn,hfn];refine⟨hb.ints,?_⟩;have UI:∀g k:Int,g≠0→Dz.pre (c.2.2,g,k,()):=λg k hg=>⟨hg,h1,hb.ints⟩;have Nb:∀g:Int,AA .i64 (c.2.2.2.tdiv g):=λg=>Mx (by omega) (by omega);rcases hk with hk|hk|⟨hk,EV,Iy⟩
 ·have hr:Ae c=Gk c:=by simp[Ae,hk]
  simp only[hk,ZHE,ZGC,hr];unfold Gk;by_cases hg:AW c.2.2.1=0;·rw[ZGE hg,hg];rfl
  ·rw[beq_eq_false_iff_ne.2 (show((AW c.2.2.1:Nat):Int)≠0 by omega),ZGA hg];have hf:Dl.fn (c.2.2.2,((AW c.2.2.1:Nat):Int),())=(c.2.2.2/((AW c.2.2.1:Nat):Int),0):=by simp only[Dl.fn,D9.fn];rw[ZGA (show¬((AW c.2.2.1:Nat):Int)<1 by omega)]
   rw[hf];exact⟨⟨by show-9223372036854775807≤c.2.2.2;omega,by show c.2.2.2≤9223372036854775807;omega⟩,UI _ _ (by omega),rfl⟩
 ·have hr:Ae c=CU c:=by simp[Ae,hk]
  simp only[hk,show((1:Int)==0)=false from rfl,ZHE,ZGC,ZF9,hr];unfold CU;by_cases hz:AW c.2.2.1=0;·rw[ZGE (.inl hz),hz];simp
  ·have GH:((AW c.2.2.1:Nat):Int)≠0:=by omega
   rw[beq_eq_false_iff_ne.2 GH];refine⟨GH,?_⟩;by_cases hm:c.2.2.2.tmod (AW c.2.2.1)≠0;·rw[bne_iff_ne.2 hm,ZGE (.inr hm)];simp[hz]
   ·have hm':c.2.2.2.tmod (AW c.2.2.1)=0:=by simpa using hm
    rw[hm',ZGb,ZF9,ZGA (by simp[hz])];refine Lp.iter c.2.2.1.length (λi y=>y=(i:Int)∧∀j,j<i→c.2.2.1.getD j 0=0) ⟨rfl,λj hj=>absurd hj (by omega)⟩ ?_;rintro i y hle⟨rfl,hi⟩R hR;by_cases e:i<c.2.2.1.length
    ·rw[ZGB (show(i:Int)<(c.2.2.1.length:Int)by omega)];refine⟨⟨by omega,by omega⟩,?_⟩;simp only[ZGD];by_cases hn:c.2.2.1.getD i 0=0
     ·simp only[hn,ZGb,ZF9];refine⟨⟨by omega,by omega⟩,hR e _ ⟨by omega,λj hj=>?_⟩⟩;by_cases ej:j=i;·subst ej;exact hn
      ·exact hi j (by omega)
     ·simp only[bne_iff_ne.2 hn,ZGC];have hfn:D2 c.2.2.1=decide (c.2.2.1.getD i 0<0):=by rw[TT hi,ZG2 e];rw[A6 e]at hn;simp only[D2,ZGA hn,A6 e]
      by_cases Cj:c.2.2.1.getD i 0<0
      ·rw[ZGB Cj]at hfn;simp only[ZGB Cj,ZGC];have hs:CV c=-((AW c.2.2.1:Nat):Int):=by simp[CV,hfn]
       rw[hs];exact⟨⟨by omega,by omega⟩,⟨by omega,Nb _⟩,UI _ _ (by omega),rfl⟩
      ·rw[ZGF Cj]at hfn;simp only[ZGF Cj,ZF9];have hs:CV c=((AW c.2.2.1:Nat):Int):=by simp[CV,hfn]
       rw[hs];exact⟨⟨GH,Nb _⟩,UI _ _ GH,rfl⟩
    ·have :i=c.2.2.1.length:=by omega
     subst this;simp only[ZGH,ZGQ,ZF9];have hfn:D2 c.2.2.1=false:=by rw[TT hi,ZHN];rfl
     have hs:CV c=((AW c.2.2.1:Nat):Int):=by simp[CV,hfn]
     rw[hs];exact⟨⟨GH,Nb _⟩,UI _ _ GH,rfl⟩
 ·have hr:Ae c=FS c:=by simp[Ae,hk]
  simp only[hk,show((2:Int)==0)=false from rfl,show((2:Int)==1)=false from rfl,ZF9,hr,ZGD];refine⟨⟨by omega,by omega,by omega,by omega⟩,?_⟩;have HH:∀n,C9.fn (n,c.2.1,())=(n%c.2.1,0):=λn=>by simp only[C9.fn,Db.fn];rw[ZGA (by omega)]
  have MR:∀n,C9.pre (n,c.2.1,()):=λn=>by show c.2.1≤9223372036854775807;omega
  have hr:∀n:Int,0≤n%c.2.1∧n%c.2.1<c.2.1:=λn=>⟨ZHQ _ (by omega),ZHH _ (by omega)⟩;simp only[HH];refine Lp.fill c.2.2.1 0 0 (·%c.2.1) (by omega) (λi out R hi hi' hf ho hR=>?_) λR=>?_;·simp only[ZGB hi',ZGD];exact⟨⟨by omega,hi'⟩,MR _,⟨by omega,by omega⟩,by omega,hf,hR⟩
  ·simp only[ZGH,ZGQ,ZF9,ZG8,ZAp];have X5:A9 c=AW (c.2.1::c.2.2.1.map (·%c.2.1)):=rfl;have AU:=Qd EV (c.2.2.1.map (·%c.2.1));have hle:=XW EV (c.2.2.1.map (·%c.2.1));rw[←X5]at AU hle⊢;have hq:=hr c.2.2.2;refine⟨MR _,⟨by simp;omega,by simp;omega⟩,⟨by simp;omega,by simp;omega⟩,λn hn=>?_,by omega,?_⟩
   ·rcases List.mem_append.1 hn with hn|hn;·obtain⟨a,_,rfl⟩:=List.mem_map.1 hn;have :=hr a;omega
    ·simp only[ZGT]at hn;omega
   ·unfold FS;by_cases ht:(c.2.2.2%c.2.1).tmod (A9 c)≠0;·rw[bne_iff_ne.2 ht,ZGE ht];rfl
    ·rw[ZGA ht];have ht:(c.2.2.2%c.2.1).tmod (A9 c)=0:=by simpa using ht
     rw[ht,ZGb];by_cases he:c.2.1=A9 c;·rw[ZGE he];simp only[beq_iff_eq.2 he,ZGC,ZF9]
     ·rw[ZGA he,beq_eq_false_iff_ne.2 he];refine⟨⟨by omega,Mx (by omega) (by omega)⟩,⟨by omega,Mx (by omega) (by omega)⟩,⟨by show((A9 c:Nat):Int)≠0;omega,by simpa using h1,λn hn=>?_⟩,rfl⟩;obtain⟨a,_,rfl⟩:=List.mem_map.1 hn;have :=hr a;constructor<;>omega
theorem ZCp(C:List Int):(A5 C).length=C.length:=by simp[A5]
theorem sT{α:Type}[DecidableEq α]{u v:List α}{x y:α}(h:u.length=v.length):decide (u++[x]=v++[y])=(decide (u=v)&&decide (x=y)):=by
 by_cases h1:u=v
 ·subst h1;by_cases h2:x=y;·subst h2;simp
  ·simp[h2]
 ·have :¬u++[x]=v++[y]:=λe=>h1 (List.append_inj e h).1;simp[this,h1]
theorem Dn.spec(a b:O)(hp:Dn.pre (a,b,())):Dn.wp a b λr=>r=Dn.fn (a,b,()):=by
 obtain⟨hl,hm,hi⟩:=hp;simp only at hl hm hi;have hfn:Dn.fn (a,b,())=Cl a b:=rfl;simp only[Dn.wp,hfn];refine Lp.iter a.2.2.1.length (λi y=>y=((i:Int),decide (a.2.2.1.take i=A5 (b.2.2.1.take i)),decide (a.2.2.1.take i=b.2.2.1.take i))) (by simp[A5]) ?_;rintro i y hle rfl R hR;by_cases e:i<a.2.2.1.length
 ·have hn:=hi _ (AV (d:=0) (show i<b.2.2.1.length by omega));have ha:=B0 0 e;have hb:=B0 0 (show i<b.2.2.1.length by omega);simp only[ZGB (show(i:Int)<(a.2.2.1.length:Int)by omega),ZGD,ZGC];refine⟨?_,?_,?_,?_,?_,?_,?_,?_,?_,?_,?_,?_,?_,?_,?_,?_,?_,?_,λh=>⟨h,by omega,by omega⟩,?_,?_,⟨by omega,by omega⟩,hR e _ ?_⟩;iterate 20(·intro h;first|exact⟨h,trivial⟩|exact⟨h,h,trivial⟩|exact h|exact⟨h,h,by omega,by omega⟩)
  have hnb:A5 (b.2.2.1.take i++[b.2.2.1.getD i 0])=A5 (b.2.2.1.take i)++[-b.2.2.1.getD i 0]:=by simp[A5]
  rw[ha,hb,hnb,sT (by rw[ZCp];simp;omega),sT (by simp;omega)];rfl
 ·have :i=a.2.2.1.length:=by omega
  subst this;simp only[ZGH,ZGQ,ZF9,ZGN];rw[hl,ZGN];unfold Cl;by_cases h1:a.2.2.1=b.2.2.1;·rw[ZGE h1,ZGB h1];rfl
  ·rw[ZGA h1,ZGF h1];by_cases h2:a.2.2.1=A5 b.2.2.1;·rw[ZGE h2,ZGB h2];rfl
   ·rw[ZGA h2,ZGF h2];rfl
theorem Er.spec(a b:List Int)(lV:a.length≤9223372036854775807)(hp:Er.pre (a,b,())):Er.wp a b λr=>r=Er.fn (a,b,()):=by
 have hl:a.length=b.length:=hp;have hfn:Er.fn (a,b,())=Bh a b:=rfl;simp only[Er.wp,hfn];refine Lp.iter a.length (λi y=>y=(i:Int)∧Bh a b=Bh (a.drop i) (b.drop i)) ⟨rfl,rfl⟩ ?_;rintro i y hle⟨rfl,hd⟩R hR;by_cases e:i<a.length
 ·have hb:i<b.length:=by omega
  simp only[ZGB (show(i:Int)<(a.length:Int)by omega),ZGD,ZGC];rw[ZG2 e,ZG2 hb]at hd;simp only[Bh]at hd;simp only[A6 e,A6 hb];refine⟨⟨by omega,by omega⟩,⟨by omega,by omega⟩,?_⟩;unfold Dr at hd;by_cases h1:a[i]<b[i];·rw[ZGE h1,ZGA (by decide)]at hd;rw[ZGB h1];exact hd.symm
  ·rw[ZGA h1]at hd;rw[ZGF h1];refine⟨⟨by omega,by omega⟩,⟨by omega,by omega⟩,?_⟩;by_cases h2:b[i]<a[i];·rw[ZGE h2,ZGA (by decide)]at hd;rw[ZGB h2];exact hd.symm
   ·rw[ZGA h2,ZGE rfl]at hd;rw[ZGF h2];exact⟨⟨by omega,by omega⟩,hR e _ ⟨rfl,hd⟩⟩
 ·have :i=a.length:=by omega
  subst this;simp only[ZGH,ZGQ,ZF9];rw[ZHN,hl,ZHN]at hd;exact hd.symm
theorem F4.spec(l m:AN)(hp:F4.pre (l,m,())):F4.wp l m λr=>r=F4.fn (l,m,()):=by
 obtain⟨h1,h2⟩:=hp;simp only at h1 h2;simp only[F4.wp,ZG8];refine⟨⟨by simp;omega,by simp;omega⟩,⟨by simp;omega,by simp;omega⟩,⟨by simp;omega,by simp;omega⟩,⟨by simp;omega,by simp;omega⟩,?_,?_⟩;rotate_left;·trivial
 show(l.1++[l.2]).length=(m.1++[m.2]).length;simp[h1]
theorem ZU:∀{a b:List Int}{x y:Int},a.length=b.length→Bh (a++[x]) (b++[y])=if Bh a b=0 then Dr x y else Bh a b
 |[],[],x,y,_=>by
  simp only[ZG8,Bh];by_cases h:Dr x y=0;·simp[h]
  ·simp[h]|[],_::_,x,y,h=>by simp at h|_::_,[],x,y,h=>by simp at h|u::a,v::b,x,y,h=>by
  simp only[ZHb,Bh];by_cases h1:Dr u v=0;·simp only[h1,ZHa];exact ZU (by simpa using h)
  ·simp only[ZGA h1]
theorem Fk.spec(a b:O)(hp:Fk.pre (a,b,())):Fk.wp a b λr=>r=Fk.fn (a,b,()):=by
 obtain⟨h1,h2⟩:=hp;simp only at h1 h2;simp only[Fk.wp,Er.fn,G3.fn,F4.fn,Fk.fn];refine⟨rfl,?_⟩;have e:EE a b=if Bh [C8 a.1,a.2.1] [C8 b.1,b.2.1]=0 then Bh (a.2.2.1++[a.2.2.2]) (b.2.2.1++[b.2.2.2])else Bh [C8 a.1,a.2.1] [C8 b.1,b.2.1]:=by
  rw[U6,ZU h1];have e2:Bh [C8 a.1,a.2.1] [C8 b.1,b.2.1]=if Dr (C8 a.1) (C8 b.1)=0 then Dr a.2.1 b.2.1 else Dr (C8 a.1) (C8 b.1):=by
   have :=ZU (a:=[C8 a.1]) (b:=[C8 b.1]) (x:=a.2.1) (y:=b.2.1) rfl;simp only[ZJE]at this;rw[this];have e3:Bh [C8 a.1] [C8 b.1]=Dr (C8 a.1) (C8 b.1):=by
    simp only[Bh];split;·rename_i h;exact h.symm
    ·rfl
   rw[e3]
  rw[e2];split;·split<;>rfl
  ·rfl
 by_cases h3:Bh [C8 a.1,a.2.1] [C8 b.1,b.2.1]=0;·rw[ZGE h3]at e;simp only[h3,ZGb,ZF9];exact⟨⟨h1,h2⟩,e.symm⟩
 ·rw[ZGA h3]at e;simp only[bne_iff_ne.2 h3,ZGC];exact e.symm
theorem nV{c:O}:∀{l:List O}{j:Nat},(∀i,i<j→EE (l.getD i U) c<0)→j≤l.length→EL c l=l.take j++EL c (l.drop j)|l,0,_,_=>by simp|[],j+1,_,h=>by simp at h|d::l,j+1,h,h2=>by have h0:=h 0 (by omega);simp at h0;simp only[EL,ZGE h0,ZIw,ZIJ,ZHb];rw[nV (l:=l) (j:=j) (λi hi=>by have :=h (i+1) (by omega);simpa using this) (by simpa using h2)]
theorem nW(c:O):∀l:List O,(EL c l).length≤l.length+1
 |[]=>by simp[EL]|d::l=>by
  have :=nW c l;simp only[EL];split;·simp only[ZGL];omega
  ·split;·simp
   ·simp
theorem ZEL{l:List O}{i:Nat}(h:i<l.length):BB (l.take (i+1))=EL (l.getD i U) (BB (l.take i)):=by rw[B0 U h,BB,ZHC];rfl
theorem ZEJ:∀(l:List O),(BB l).length≤l.length:=by
 have key:∀(l out:List O),(l.foldl (λout c=>EL c out) out).length≤out.length+l.length:=by intro l;induction l with|nil=>intro out;simp|cons c l ih=>intro out;have :=ih (EL c out);have :=nW c out;simp only[ZG3,ZGL];omega
 intro l;have :=key l [];simpa[BB]using this
theorem ZEK(l:List O):∀x∈BB l,x∈l:=by
 have key:∀(l out:List O),∀x∈l.foldl (λout c=>EL c out) out,x∈l∨x∈out:=by intro l;induction l with|nil=>intro out x hx;exact .inr hx|cons c l ih=>
  intro out x hx;rcases ih _ x hx with h|h;·exact .inl (by simp[h])
  ·rcases RW.1 h with rfl|h;·exact .inl (by simp)
   ·exact .inr h
 intro x hx;exact(key l [] x hx).elim id (by simp)
theorem Fm.spec(l:List O)(hp:Fm.pre (l,())):Fm.wp l λr=>r=Fm.fn (l,()):=by
 obtain⟨hl,n,hn,hd⟩:=hp;simp only at hl hd;have hfn:Fm.fn (l,())=BB l:=rfl;simp only[Fm.wp,hfn,Fk.fn,GX.fn,ZG8];refine Lp.iter l.length (λi y=>y=((i:Int),BB (l.take i))) (by simp[BB]) ?_;rintro i y hle rfl R hR;by_cases e:i<l.length
 ·simp only[ZGB (show(i:Int)<(l.length:Int)by omega),ZGD,ZGC];refine⟨⟨by omega,by omega⟩,?_⟩;have BO:=ZEL e;have C2:=ZEJ (l.take i);have hdc:(l.getD i U).2.2.1.length=n:=hd _ (AV e);have X9:∀j,j<(BB (l.take i)).length→((BB (l.take i)).getD j U).2.2.1.length=n:=λj hj=>hd _ (ZGl (ZEK _ _ (AV hj)));rw[ZGP]at C2;have hR':=hR e ((i:Int)+1,EL (l.getD i U) (BB (l.take i))) (by rw[BO];rfl);clear hR BO;refine Lp.iter (BB (l.take i)).length (λj y=>y=(j:Int)∧∀k,k<j→EE ((BB (l.take i)).getD k U) (l.getD i U)<0) ⟨rfl,λk hk=>absurd hk (by omega)⟩ ?_;rintro j y IJ⟨rfl,hj⟩R' BJ;have Kg:=nV hj IJ;simp only[ZGD];by_cases e2:j<(BB (l.take i)).length
  ·have hds':=X9 j e2;simp only[ZGB (show(j:Int)<((BB (l.take i)).length:Int)by omega),ZH2];refine⟨λh=>⟨h,h,by omega,by omega⟩,λh=>⟨h,trivial⟩,λh=>⟨h,h,⟨hds'.trans hdc.symm,by show((BB (l.take i)).getD j U).2.2.1.length≤_;omega⟩⟩,λh=>⟨h,trivial⟩,λh=>h,?_⟩;rw[ZG2 e2]at Kg;by_cases h1:EE ((BB (l.take i)).getD j U) (l.getD i U)<0
   ·simp only[ZGB h1,ZGC];refine⟨⟨by omega,by omega⟩,BJ e2 _ ⟨rfl,λk hk=>?_⟩⟩;by_cases ek:k=j;·subst ek;exact h1
    ·exact hj k (by omega)
   ·simp only[ZGF h1,ZF9];refine⟨λh=>⟨h,h,by omega,by omega⟩,λh=>⟨h,trivial⟩,λh=>⟨h,h,trivial⟩,λh=>h,?_⟩;rw[A6 e2]at h1;by_cases h2:(BB (l.take i)).getD j U=l.getD i U;·rw[ZGB h2];refine⟨⟨by omega,by omega⟩,?_⟩;rw[A6 e2]at h2;simp only[EL,ZGA h1,ZGE h2]at Kg;rw[←ZG2 e2,ZHv]at Kg;rw[Kg]at hR';exact hR'
    ·rw[ZGF h2];rw[A6 e2]at h2;simp only[EL,ZGA h1,ZGA h2]at Kg;rw[←ZG2 e2]at Kg;refine⟨⟨by omega,by omega⟩,⟨by simp;omega,by simp;omega⟩,⟨by simp;omega,by simp;omega⟩,⟨by omega,by omega⟩,⟨by simp;omega,by simp;omega⟩,⟨by omega,by omega⟩,?_⟩;rw[Kg]at hR';simpa using hR'
  ·have :j=(BB (l.take i)).length:=by omega
   subst this;simp only[ZGH,ZGQ,ZJB,ZF9];refine⟨λh=>(by cases h),λh=>(by cases h),λh=>(by cases h),λh=>(by cases h),λh=>(by cases h),λh=>(by cases h),λh=>(by cases h),λh=>(by cases h),λh=>(by cases h),⟨by omega,by omega⟩,⟨by simp;omega,by simp;omega⟩,⟨by simp;omega,by simp;omega⟩,⟨by omega,by omega⟩,⟨by simp;omega,by simp;omega⟩,⟨by omega,by omega⟩,?_⟩;rw[ZHN]at Kg⊢;simp only[EL]at Kg;rw[Kg]at hR';simpa using hR'
 ·have :i=l.length:=by omega
  subst this;simp only[ZGH,ZGQ,ZF9,ZGN]
theorem EZ.spec(a b:List O)(hp:EZ.pre (a,b,())):EZ.wp a b λr=>r=EZ.fn (a,b,()):=by obtain⟨h1,h2⟩:=hp;simp only at h1 h2;simp only[EZ.wp,ZG8];exact⟨⟨by simp;omega,by simp;omega⟩,⟨by omega,by omega⟩,trivial⟩
theorem Fe{α:Type}{l:List α}{d x:α}(h:x∈l):∃i,i<l.length∧l.getD i d=x:=by obtain⟨i,hi,rfl⟩:=List.mem_iff_getElem.1 h;exact⟨i,hi,A6 hi⟩
theorem Hc.spec(l:List (List O))(p:List O)(hl:l.length≤9223372036854775807):Hc.wp l p λr=>r=Hc.fn (l,p,()):=by
 have hfn:Hc.fn (l,p,())=decide (p∈l):=rfl;simp only[Hc.wp,hfn,GY.fn];refine Lp.iter l.length (λi y=>y=(i:Int)∧∀j,j<i→l.getD j []≠p) ⟨rfl,λj hj=>absurd hj (by omega)⟩ ?_;rintro i y hle⟨rfl,hi⟩R hR;by_cases e:i<l.length
 ·simp only[ZGB (show(i:Int)<(l.length:Int)by omega),ZGD,ZGC];refine⟨⟨by omega,by omega⟩,?_⟩;by_cases h:l.getD i []=p;·rw[ZGB h];exact(ZGB (h▸AV e)).symm
  ·rw[ZGF h];refine⟨⟨by omega,by omega⟩,hR e _ ⟨rfl,λj hj=>?_⟩⟩;by_cases ej:j=i;·subst ej;exact h
   ·exact hi j (by omega)
 ·have :i=l.length:=by omega
  subst this;simp only[ZGH,ZGQ,ZF9];refine(ZGF λhm=>?_).symm;obtain⟨j,hj,h⟩:=Fe (d:=[]) hm;exact hi j hj h
theorem ZDq{out out':List (List O)}{p:List O}(h:Hf out p=some out'):out.length≤out'.length∧out'.length≤out.length+1:=by
 unfold Hf at h;split at h;·cases h
 ·split at h;·cases h;omega
  ·cases h;simp
theorem aQ:∀{l out out':List (List O)},l.foldlM Hf out=some out'→out.length≤out'.length∧out'.length≤out.length+l.length|[],out,out',h=>by cases h;simp|p::l,out,out',h=>by simp only[ZGc,ZGv,ZGs]at h;obtain⟨s,h1,h2⟩:=h;have :=ZDq h1;have :=aQ h2;simp only[ZGL];omega
theorem EN.spec(l:List (List O))(hp:EN.pre (l,())):EN.wp l λr=>r=EN.fn (l,()):=by
 obtain⟨hl,hd⟩:=hp;simp only at hl hd;have hfn:EN.fn (l,())=match l.foldlM Hf []with|none=>([],3)|some out=>(out,0):=rfl;simp only[EN.wp,hfn,Dm.fn,Hc.fn];refine Lp.foldO l [] Hf [] (by omega) ?_ ?_
 ·intro i out R e e2 hf ht BC BJ;have C2:=(aQ ht).2;simp only[ZGS,ZGP]at C2;simp only[ZGB e2,ZGD,ZGC];refine⟨⟨by omega,by omega⟩,hd _ (AV e),?_⟩;simp only[Hf]at BC BJ;by_cases h0:(Af (l.getD i [])).2.2=0
  ·rw[ZGA λh=>h h0]at BC;simp only[h0,ZGb,ZF9];refine⟨λh=>⟨h,h,trivial⟩,λh=>⟨h,trivial⟩,λh=>h,?_⟩;have hb:(!(Af (l.getD i [])).2.1&&!decide ((Af (l.getD i [])).1∈out))=!decide ((Af (l.getD i [])).2.1=true∨(Af (l.getD i [])).1∈out):=by cases(Af (l.getD i [])).2.1<;>simp
   rw[hb];by_cases h1:(Af (l.getD i [])).2.1=true∨(Af (l.getD i [])).1∈out;·rw[ZGE h1]at BC;rw[ZGB h1];exact⟨hf,BC _ rfl⟩
   ·rw[ZGA h1]at BC;rw[ZGF h1];exact⟨⟨by simp;omega,by simp;omega⟩,hf,BC _ rfl⟩
  ·simp only[bne_iff_ne.2 h0,ZGC];rw[BJ (ZGE h0),((Ve _).resolve_left h0).1]
 ·intro out R ht;simp only[ZGH,ZGQ,ZF9];rw[ht]
theorem Vd:∀(l out:List (List O)),out.length≤400→l.foldlM BT out=(l.foldlM Hf out).bind λo=>if 400<o.length then none else some o
 |[],out,h=>by show some out=if 400<out.length then none else some out;rw[ZGA (by omega)]|p::l,out,h=>by
  rw[ZGc,ZGc];by_cases h0:(Af p).2.2=0
  ·by_cases h1:(Af p).2.1=true∨(Af p).1∈out;·have e1:BT out p=some out:=(ZGA λh=>h h0).trans (ZGE h1);have e2:Hf out p=some out:=(ZGA λh=>h h0).trans (ZGE h1);rw[e1,e2];exact Vd l out h
   ·have e2:Hf out p=some (out++[(Af p).1]):=(ZGA λh=>h h0).trans (ZGA h1);by_cases h2:400<out.length+1
    ·have e1:BT out p=none:=(ZGA λh=>h h0).trans ((ZGA h1).trans (ZGE h2));rw[e1,e2];show none=(l.foldlM Hf (out++[(Af p).1])).bind _;rcases CN (l.foldlM Hf (out++[(Af p).1]))with h3|⟨o,h3⟩;·rw[h3];rfl
     ·rw[h3];have :=(aQ h3).1;simp only[ZGI,ZGL,ZGS]at this;exact(ZGE (by omega)).symm
    ·have e1:BT out p=some (out++[(Af p).1]):=(ZGA λh=>h h0).trans ((ZGA h1).trans (ZGA h2));rw[e1,e2];exact Vd l _ (by simp;omega)
  ·have e1:BT out p=none:=ZGE h0;have e2:Hf out p=none:=ZGE h0;rw[e1,e2];rfl
theorem EF.spec(n:Int)(l:List (List O))(hp:EF.pre (n,l,())):EF.wp n l λr=>r=EF.fn (n,l,()):=by
 have hfn:EF.fn (n,l,())=GO n (l.foldlM BT []):=rfl;simp only[EF.wp,hfn,EN.fn];refine⟨hp,λh=>⟨h,trivial⟩,λh=>⟨h,trivial⟩,λh=>by rw[h];rfl,?_⟩;rw[Vd l [] (by simp)];rcases CN (l.foldlM Hf [])with h3|⟨o,h3⟩
 ·have Nl:OA l=([],3):=by unfold OA;rw[h3]
  simp only[Nl,h3];rfl
 ·have Nl:OA l=(o,0):=by unfold OA;rw[h3]
  simp only[Nl,h3];by_cases h:400<o.length;·simp only[ZGb,ZHh,ZGB (show(400:Int)<(o.length:Int)by omega),ZGC,ZHc,ZGE h];rfl
  ·simp only[ZGb,ZHh,ZGF (show¬(400:Int)<(o.length:Int)by omega),ZF9,ZHc,ZGA h];rfl
theorem AY.D{s:AM}(h:AY s=true){p:List O}(hp:p∈s.2):BN p∧A3 p s.1.toNat:=⟨AY.B h hp,λc hc=>by obtain⟨h0,_,_,h4⟩:=AY.b h;have :=((h4 p hp).2 c hc).2;omega⟩
theorem FK.spec(x:AM):FK.wp x λr=>r=FK.fn (x,()):=by have hfn:FK.fn (x,())=AX x:=rfl;simp only[FK.wp,CO.fn,EF.fn,hfn];cases hv:AY x with|false=>simp[AX,hv]|true=>have :=(AY.b hv).2.2.1;refine⟨⟨by simp only;omega,λp hp=>⟨AY.B hv hp,_,(AY.D hv hp).2⟩⟩,?_⟩;simp[AX,hv]
theorem wT{p q:List O}{n:Nat}(hp:p.length≤96∧∀c∈p,AG c=true)(hq:q.length≤96∧∀c∈q,AG c=true)(h1:A3 p n)(h2:A3 q n):Rs (p++q):=⟨⟨by simp only[ZGI];omega,λc hc=>(List.mem_append.1 hc).elim (λh=>AG.condB (hp.2 c h)) λh=>AG.condB (hq.2 c h)⟩,n,λc hc=>(List.mem_append.1 hc).elim (h1 c) (h2 c)⟩
theorem H3.spec(p:List O)(n:Int):H3.wp p n λr=>r=H3.fn (p,n,()):=by
 have hfn:H3.fn (p,n,())=Ed p n:=rfl;simp only[H3.wp,hfn,EY.fn,Dm.fn];refine⟨λh=>⟨h,trivial⟩,λh=>by rw[h];rfl,?_⟩;by_cases h1:n<0∨12<n
 ·have :(decide (n<0)||decide (12<n))=true:=by simpa using h1
  rw[this];simp[Ed,h1]
 ·have :(decide (n<0)||decide (12<n))=false:=by rw[ZGx]at h1;simp[h1]
  rw[this];have hs:Ed p n=if 384<p.length then([],false,3)else if p.any λc=>!AG c then([],false,1)else if GS p n=false then([],false,2)else Af p:=by unfold Ed;exact ZGA h1
  simp only[ZF9];by_cases h2:384<p.length;·rw[ZGB (show(384:Int)<(p.length:Int)by omega)];rw[hs,ZGE h2];rfl
  ·rw[ZGF (show¬(384:Int)<(p.length:Int)by omega)];rw[ZGA h2]at hs;refine Lp.iter p.length (λi y=>y=((i:Int),if(p.take i).all λc=>((c.2.2.1.length:Nat):Int)==n=true then(0:Int)else 2)∧(p.take i).all AG=true) ⟨by simp,by simp⟩ ?_;rintro i y hle⟨rfl,hv⟩R hR;by_cases e:i<p.length
   ·have Bb:=B0 U e;simp only[ZGB (show(i:Int)<(p.length:Int)by omega),ZGD,ZGC];refine⟨⟨by omega,by omega⟩,?_⟩;by_cases h3:AG (p.getD i U)=true
    ·simp only[h3,ZGq,ZF9];have hv':(p.take (i+1)).all AG=true:=by rw[Bb,ZIR,hv];simp only[ZIj,ZJD,h3];rfl
     by_cases h4:(((p.getD i U).2.2.1.length:Nat):Int)=n;·simp only[bne_eq_false_iff_eq.2 h4,ZF9];refine⟨⟨by omega,by omega⟩,hR e _ ⟨?_,hv'⟩⟩;rw[Bb,ZIR];simp only[ZIj,ZJD,beq_iff_eq.2 h4,ZIC];rfl
     ·simp only[bne_iff_ne.2 h4,ZGC];refine⟨⟨by omega,by omega⟩,hR e _ ⟨?_,hv'⟩⟩;rw[Bb,ZIR];simp only[ZIj,ZJD,beq_eq_false_iff_ne.2 h4,ZIC,ZJA,ZGh,ZHM];rfl
    ·rw[ZHs]at h3;simp only[h3,ZGz,ZGC];rw[hs,ZGE (List.any_eq_true.2 ⟨_,AV (d:=U) e,by rw[h3];rfl⟩)]
   ·have :i=p.length:=by omega
    subst this;rw[ZGN]at hv⊢;simp only[ZGH,ZGQ,ZF9];have Ni:p.any (λc=>!AG c)=false:=by rw[ZJ6];intro c hc;rw[List.all_eq_true.1 hv c hc];simp
    rw[Ni]at hs;simp only[ZGh,ZHM]at hs;have ho:GS p n=p.all λc=>((c.2.2.1.length:Nat):Int)==n:=by
     unfold GS;rw[ZHg,ZHi,ZHi];constructor;·intro h c hc;have :=h c hc;simp only[ZGW]at this;exact this.2
     ·intro h c hc;rw[List.all_eq_true.1 hv c hc,h c hc];rfl
    by_cases h5:p.all λc=>((c.2.2.1.length:Nat):Int)==n=true;·rw[ho,h5]at hs;simp only[h5,ZHa,ZGb,ZF9];simp only[ZIz,ZHM]at hs;refine⟨⟨⟨(by omega:p.length≤1048576),λc hc=>AG.condB (List.all_eq_true.1 hv c hc)⟩,n.toNat,λc hc=>?_⟩,hs.symm⟩;have :=List.all_eq_true.1 h5 c hc;rw[ZIF]at this;omega
    ·rw[ho]at hs;simp only[ZGA h5];rw[ZHs]at h5;rw[h5]at hs;exact hs.symm
theorem jD{g:Nat}(hg:0<g):∀{l:List Int}{s:Int},s=g∨s=-(g:Int)→(∀n∈l,g∣n.natAbs)→∀a:Nat,(l.map (·.tdiv s)).foldl (λg n=>Nat.gcd g n.natAbs) a*g=l.foldl (λg n=>Nat.gcd g n.natAbs) (a*g)
 |[],s,_,_,a=>rfl|n::l,s,hs,h,a=>by
  simp only[ZGi,ZG3];rw[jD hg hs λm hm=>h m (by simp[hm])];congr 1;have h1:=h n (by simp);have h2:(n.tdiv s).natAbs=n.natAbs/g:=by rw[ZKO];rcases hs with rfl|rfl<;>(simp;rfl)
  rw[h2,←Nat.gcd_mul_right,Nat.div_mul_cancel h1]
theorem jM{l:List Int}{s:Int}(hg:AW l≠0)(hs:s=AW l∨s=-(AW l:Int)):AW (l.map (·.tdiv s))=1:=by
 have h:=jD (g:=AW l) (by omega) (l:=l) hs (Qc (l:=l) (g:=0)).2 0;rw[ZJR]at h;have h2:AW (l.map (·.tdiv s))*AW l=1*AW l:=by rw[Nat.one_mul];exact h
 exact Nat.eq_of_mul_eq_mul_right (by omega) h2
theorem iV{g:Nat}(hg:0<g):∀{l:List Int},(∀n∈l,g∣n.natAbs)→D2 (l.map (·.tdiv (g:Int)))=D2 l∧(D2 l=true→D2 (l.map (·.tdiv (-(g:Int))))=false)
 |[],_=>⟨rfl,λh=>by cases h⟩|n::l,h=>by
  obtain⟨ih1,ih2⟩:=iV hg (l:=l) λm hm=>h m (by simp[hm]);obtain⟨k,hk⟩:=h n (by simp);simp only[ZGi,D2,ZKA];by_cases h0:n=0;·subst h0;simp only[Int.zero_tdiv,ZHa,Int.neg_zero];refine⟨ih1,λhf=>?_⟩;have :=ih2 hf;simpa only[ZKA]using this
  ·have IK:k≠0:=λe=>by subst e;simp at hk;exact h0 hk
   have hq:n.tdiv g=k∧0<n∨n.tdiv g=-(k:Int)∧n<0:=by
    have e1:((g:Int)*k).tdiv g=k:=by rw[ZIK];exact ZKs _ (by omega)
    have e2:((g*k:Nat):Int)=(g:Int)*k:=ZJg _ _;rcases Int.lt_or_gt_of_ne h0 with h1|h1
    ·refine .inr ⟨?_,h1⟩;have :n=-((g:Int)*k):=by omega
     rw[this,Int.neg_tdiv,e1]
    ·refine .inl ⟨?_,h1⟩;have :n=(g:Int)*k:=by omega
     rw[this,e1]
   have hq0:n.tdiv g≠0:=by omega
   have hq1:-n.tdiv g≠0:=by omega
   rw[ZGA h0,ZGA hq0,ZGA hq1];constructor;·exact decide_eq_decide.2 (by omega)
   ·intro h;simp only[ZG0]at h;exact ZGF (by omega)
def Mi(n:Nat)(c:O):Prop:=c.2.2.1.length=n∧(c.1≠2→AW c.2.2.1=1)∧(c.1=1→D2 c.2.2.1=false)
theorem iI{c:O}(h0:(CU c).2=0):Mi c.2.2.1.length (CU c).1∧(CU c).1.1=1:=by
 have hs:∀b,(Dd b).2≠0:=λb=>by cases b<;>simp[Dd]
 unfold CU at h0⊢;by_cases hg:AW c.2.2.1=0∨c.2.2.2.tmod (AW c.2.2.1)≠0;·rw[ZGE hg]at h0;exact absurd h0 (hs _)
 ·rw[ZGA hg];rw[ZGx]at hg;have hd:=(Qc (l:=c.2.2.1) (g:=0)).2;have he:CV c=(AW c.2.2.1:Int)∨CV c=-(AW c.2.2.1:Int):=by unfold CV;split<;>simp
  refine⟨⟨by simp,λ_=>jM hg.1 he,λ_=>?_⟩,rfl⟩;obtain⟨h1,h2⟩:=iV (g:=AW c.2.2.1) (by omega) hd;show D2 (c.2.2.1.map (·.tdiv (CV c)))=false;unfold CV;cases hf:D2 c.2.2.1 with|true=>simp only[ZHa];exact h2 hf|false=>simp only[ZGh,ZHM];rw[h1,hf]
theorem aG{c:O}(h:condB c)(h0:(Ae c).2=0):Mi c.2.2.1.length (Ae c).1∧(Ae c).1.1=c.1:=by
 obtain⟨hk,_⟩:=h;have hs:∀b,(Dd b).2≠0:=λb=>by cases b<;>simp[Dd]
 rcases hk with hk|hk|⟨hk,EV,Iy⟩
 ·have hr:Ae c=Gk c:=by simp[Ae,hk]
  rw[hr]at h0⊢;unfold Gk at h0⊢;by_cases hg:AW c.2.2.1=0;·rw[ZGE hg]at h0;exact absurd h0 (hs _)
  ·rw[ZGA hg,hk];exact⟨⟨by simp,λ_=>jM hg (.inl rfl),λh=>by cases h⟩,rfl⟩
 ·have hr:Ae c=CU c:=by simp[Ae,hk]
  rw[hr]at h0⊢;rw[hk];exact iI h0
 ·have hr:Ae c=FS c:=by simp[Ae,hk]
  rw[hr]at h0⊢;unfold FS at h0⊢;split at h0;·exact absurd h0 (hs _)
  split at h0;·exact absurd h0 (hs _)
  rename_i ha hb;rw[ZGA ha,ZGA hb,hk];exact⟨⟨by simp,λh=>absurd rfl h,λh=>by cases h⟩,rfl⟩
theorem tmod_one(n:Int):n.tmod 1=0:=by rw[ZKH];exact Int.one_dvd _
theorem iN{n:Nat}{c:O}(h:Mi n c)(h0:c.1=0):(Ae (1,0,c.2.2)).2=0∧Mi n (Ae (1,0,c.2.2)).1∧(Ae (1,0,c.2.2)).1.1=1:=by
 have hg:=h.2.1 (by omega);have hr:Ae (1,0,c.2.2)=CU (1,0,c.2.2):=rfl;have hz:(CU (1,0,c.2.2)).2=0:=by
  unfold CU;have :¬(AW c.2.2.1=0∨c.2.2.2.tmod (AW c.2.2.1)≠0):=by
   rw[hg];rintro(h|h);·omega
   ·exact h (tmod_one _)
  show(if AW c.2.2.1=0∨c.2.2.2.tmod (AW c.2.2.1)≠0 then _ else _:O×Int).2=0;rw[ZGA this]
 rw[hr];have :=iI hz;rw[show((1,0,c.2.2):O).2.2.1.length=n from h.1]at this;exact⟨hz,this⟩
theorem rN{p:List O}{n:Nat}(h:BN p)(hd:A3 p n):∀c∈Aq p,Mi n c:=by intro c hc;simp only[Aq,ZGt,ZHx]at hc;obtain⟨r,⟨⟨d,EI,rfl⟩,hr⟩,rfl⟩:=hc;have :=(aG (h.2 d EI) (by simpa using hr)).1;rwa[hd d EI]at this
theorem ZEr{p:List O}{n:Nat}(h:BN p)(hd:A3 p n):∀c∈(Af p).1,Mi n c:=tR (P:=Mi n) (λd c hd hc=>hd) (λc h0 hc=>(iN hc h0).2.1) h (rN h hd)
theorem tT{p:List O}{n:Nat}(h:BN p)(hd:A3 p n):A3 (Af p).1 n:=λc hc=>(ZEr h hd c hc).1
theorem ZEl{out out':List (List O)}{p:List O}{n:Nat}(h:BT out p=some out')(hl:∀q∈out,A3 q n)(hp:BN p)(hd:A3 p n):∀q∈out',A3 q n:=by
 unfold BT at h;split at h;·cases h
 ·split at h;·cases h;exact hl
  ·split at h;·cases h
   ·cases h;intro q hq;rcases List.mem_append.1 hq with hq|hq;·exact hl q hq
    ·simp only[ZGT]at hq;subst hq;exact tT hp hd
theorem SV{n:Nat}:∀{l:List (List O)}{out out':List (List O)},l.foldlM BT out=some out'→(∀q∈out,A3 q n)→(∀p∈l,BN p∧A3 p n)→∀q∈out',A3 q n|[],out,out',h,hl,_=>by cases h;exact hl|p::l,out,out',h,hl,hb=>by simp only[ZGc,ZGv,ZGs]at h;obtain⟨s,h1,h2⟩:=h;have h3:=hb p (by simp);exact SV h2 (ZEl h1 hl h3.1 h3.2) λq hq=>hb q (by simp[hq])
theorem Zp{x:AM}(hx:AY x=true)(h:(AX x).2=0):∀q∈(AX x).1.2,A3 q x.1.toNat:=by
 unfold AX at h⊢;rw[ZGA (by rw[hx];simp)]at h⊢;unfold GO at h⊢;rcases CN (Bg x.2)with ho|⟨out,ho⟩;·rw[ho]at h;cases h
 ·rw[ho];exact SV ho (by simp) λp hp=>AY.D hx hp
theorem ZC4{c o:O}(h:o∈CI c):o.2.2.1.length=c.2.2.1.length:=by
 unfold CI at h;split at h;·simp only[ZGT]at h;subst h;simp[IV]
 ·split at h
  ·simp only[ZGe,ZIc,ZJZ]at h;rcases h with rfl|rfl;·rfl
   ·simp[IV]
  ·obtain⟨r,_,rfl⟩:=List.mem_map.1 h;rfl
theorem qE{n:Nat}:∀{l out out':List O},l.foldlM (G0 n) out=some out'→A3 out n→(∀c∈l,condB c∧c.2.2.1.length=n)→A3 out' n
 |[],out,out',h,h1,_=>by cases h;exact h1|c::l,out,out',h,h1,hb=>by
  simp only[ZGc,ZGv,ZGs]at h;obtain⟨s,h2,h3⟩:=h;refine qE h3 ?_ λd hd=>hb d (by simp[hd]);have key:∀x:O,x.2.2.1.length=n→A3 (out++[x]) n:=λx hx d hd=>by
   rcases List.mem_append.1 hd with hd|hd;·exact h1 d hd
   ·simp only[ZGT]at hd;subst hd;exact hx
  obtain⟨JP,hcl⟩:=hb c (by simp);unfold G0 at h2;split at h2;·cases h2
  ·rename_i he;split at h2;·cases h2;exact key _ (by simp)
   ·split at h2;·cases h2;exact h1
    ·cases h2;refine key _ ?_;have he':(Dj c).2.2=0:=by omega
     have hs:(Dj c).2.1=0:=by omega
     unfold Dj at he' hs⊢;split at he';·cases he'
     ·rename_i h5;rw[ZGA h5]at hs⊢;have :=(aG JP hs).1.1;exact this.trans hcl
theorem ZCq{c:O}(hv:AG c=true):A3 (Cr c).1 c.2.2.1.length:=by
 unfold Cr;rw[ZGA (by rw[hv];simp)];rcases CN ((CI c).foldlM (G0 c.2.2.1.length) [])with h|⟨out,h⟩;·rw[h];intro d hd;simp at hd
 ·rw[h];simp only;split;·intro d hd;simp at hd
  ·exact qE h (by intro d hd;simp at hd) λo ho=>⟨Zt hv o ho,ZC4 ho⟩
theorem BY.spec(a:Int)(l:AN)(b:Int)(m:AN)(hp:BY.pre (a,l,b,m,())):BY.wp a l b m λr=>r=BY.fn (a,l,b,m,()):=by
 obtain⟨ha,⟨EJ,G9,YY⟩,hb,⟨EV,Iy,UB⟩,he⟩:=hp;simp only at ha EJ G9 YY hb EV Iy UB he;have key:∀x y:Int,-1048576≤x∧x≤1048576→-4294967296≤y∧y≤4294967296→-4503599627370496≤x*y∧x*y≤4503599627370496:=λx y hx hy=>Ln (n:=1048576) (m:=4294967296) (by omega) (by omega) hx.1 hx.2 hy.1 hy.2;have k1:=key a l.2 ha YY;have k2:=key b m.2 hb UB;have hfn:BY.fn (a,l,b,m,())=BD a l b m:=rfl;simp only[BY.wp,ZGD,hfn];unfold BD;refine⟨⟨by omega,by omega,by omega,by omega⟩,⟨by omega,by omega⟩,⟨by omega,by omega⟩,⟨by omega,by omega⟩,?_⟩;have Gv:(List.range l.1.length).length=l.1.length:=by simp
 have hF:=Lp.fill (body:=λ(y5:Int×List Int)R5=>let v2:=List.getD l.1 (Int.toNat y5.1) (0:Int);let v3:=List.getD m.1 (Int.toNat y5.1) (0:Int);cond (decide (y5.1<((List.length l.1:Nat):Int))) (((0:Int)≤y5.1∧y5.1<((List.length l.1:Nat):Int))∧AA IntKind.i64 (a*v2)∧((0:Int)≤y5.1∧y5.1<((List.length m.1:Nat):Int))∧AA IntKind.i64 (b*v3)∧AA IntKind.i64 ( a*v2+b*v3)∧((0:Int)≤y5.1∧y5.1<((List.length y5.2:Nat):Int))∧Int.toNat y5.1<List.length y5.2∧AA IntKind.i64 (y5.1+(1:Int))∧R5 ( y5.1+(1:Int),List.set y5.2 (Int.toNat y5.1) ( a*v2+b*v3))) (((y5.2,a*l.2+b*m.2):AN)=((List.range l.1.length).map λi=>a*l.1.getD i 0+b*m.1.getD i 0,a*l.2+b*m.2))) (List.range l.1.length) 0 0 (λi=>a*l.1.getD i 0+b*m.1.getD i 0) (by omega) (λi out R hi hi' hf ho hR=>?_) λR=>?_;·rw[Gv]at hF;exact hF
 ·rw[Gv]at hi hi' ho;rw[aD hi]at hR;have k3:=key a _ ha (G9 _ (AV (d:=0) hi));have k4:=key b _ hb (Iy _ (AV (d:=0) (show i<m.1.length by omega)));simp only[ZGB hi',ZGD,ZGC];exact⟨⟨by omega,by omega⟩,⟨by omega,by omega⟩,⟨by omega,by omega⟩,⟨by omega,by omega⟩,⟨by omega,by omega⟩,⟨by omega,by omega⟩,by omega,hf,hR⟩
 ·rw[Gv];simp only[ZGH,ZGQ,ZF9]
theorem pR(a:Int)(l:AN)(b k:Int):BD a l b (List.replicate l.1.length 0,k)=(l.1.map λn=>a*n,a*l.2+b*k):=by unfold BD;congr 1;apply ZHR (by simp);intro i h1 h2;simp only[ZGM,ZG4]at h1;simp only[ZH9,ZHz];rw[A6 h1,A6 (by simpa using h1)];simp
theorem Ge.of{σ:Type}{K:σ→Prop}{body:(σ→Prop)→Prop}{P:σ→Prop}(hK:∀y,P y→K y)(hb:∀R:σ→Prop,(∀y,P y→R y)→body R):Ge K body:=hb K hK
theorem Ha.spec(c:O):Ha.wp c λr=>r=Ha.fn (c,()):=by have hfn:Ha.fn (c,())=Cr c:=rfl;simp only[Ha.wp,EY.fn,hfn,ZGD,BY.fn,pR,Bi.fn];cases hv:AG c with|false=>simp[Cr,hv]|true=>
 simp only[ZGq,ZF9];have hl:=Bo.b (AG.lin hv);have C2:=qP hv;have D5:=Zt hv;have hpre:∀a b:Int,-1048576≤a∧a≤1048576→-1048576≤b∧b≤1048576→BY.pre (a,c.2.2,b,(List.replicate c.2.2.1.length 0,1),()):=λa b ha hb=>⟨ha,⟨by show c.2.2.1.length≤_;omega,λn hn=>by have :=hl.2.1 n hn;omega,by show-4294967296≤c.2.2.2;omega,by show c.2.2.2≤4294967296;omega⟩,hb,⟨by show(List.replicate c.2.2.1.length (0:Int)).length≤_;simp;omega,λn hn=>by rw[(List.mem_replicate.1 hn).2];omega,by show(-4294967296:Int)≤1;omega,by show(1:Int)≤4294967296;omega⟩,by simp⟩;have Cj:Cr c=match(CI c).foldlM (G0 c.2.2.1.length) []with|none=>([],3)|some out=>if 400<out.length then([],3)else(out,0):=by unfold Cr;exact ZGA (by rw[hv];simp)
 refine⟨⟨by omega,by omega,by omega,by omega⟩,Ge.of (P:=λy=>y.1=CI c) ?_ ?_⟩
 ·rintro⟨L,b1,b2,k⟩hL;simp only at hL;subst hL;refine Lp.foldO (CI c) U (G0 c.2.2.1.length) [] (by omega) (λi t R hi hi' hf ht hR hn=>?_) λt R ht=>?_
  ·have Dv:t.length≤512:=by have :=TZ (λ_ _ _ h=>qH h) _ _ _ ht;simp only[ZGP,ZGS]at this;omega
   have A4:=AV (d:=U) hi;simp only[ZGB hi',ZGD,ZGC];refine⟨⟨by omega,hi'⟩,D5 _ A4,?_⟩;have BO:=rM ((CI c).getD i U);have hmk:Dj ((CI c).getD i U)=if(Ae ((CI c).getD i U)).2=0∧AG (Ae ((CI c).getD i U)).1=false then(U,0,3)else((Ae ((CI c).getD i U)).1,(Ae ((CI c).getD i U)).2,0):=rfl;have JX:G0 c.2.2.1.length t ((CI c).getD i U)=if(Dj ((CI c).getD i U)).2.2≠0 then none else if 0<(Dj ((CI c).getD i U)).2.1 then some (t++[(0,0,List.replicate c.2.2.1.length 0,0)])else if(Dj ((CI c).getD i U)).2.1<0 then some t else some (t++[(Dj ((CI c).getD i U)).1]):=rfl;generalize hr:Ae ((CI c).getD i U)=r at*;obtain⟨rc,rs⟩:=r;simp only at BO JX hmk;rcases BO with rfl|rfl|rfl;·simp only[ZHE,show((0:Int)==1)=false from rfl,ZF9,ZH2];refine⟨λh=>⟨h,trivial⟩,λh=>⟨h,trivial⟩,λh=>h,?_⟩;cases nA:AG rc with|false=>rw[hmk.trans (ZGE ⟨rfl,nA⟩)]at JX;simp only[ZGz,ZGC];rw[Cj,hn (by rw[JX];rfl)]|true=>rw[hmk.trans (ZGA (by rw[nA];simp))]at JX;simp only[ZGq,ZF9,ZGC];exact⟨⟨by simp;omega,by simp;omega⟩,hf,hR _ (by rw[JX];rfl)⟩
   ·rw[hmk.trans (ZGA (by simp))]at JX;simp only[ZHE,ZGC];exact⟨⟨by simp;omega,by simp;omega⟩,hf,hR _ (by rw[JX];rfl)⟩
   ·rw[hmk.trans (ZGA (by simp))]at JX;simp only[show((-1:Int)==1)=false from rfl,show((-1:Int)==0)=false from rfl,ZF9,ZJB];exact⟨λh=>(by cases h),λh=>(by cases h),λh=>(by cases h),hf,hR _ (by rw[JX];rfl)⟩
  ·simp only[ZGH,ZGQ,ZF9];rw[Cj,ht];simp only;by_cases h4:400<t.length;·rw[ZGE h4,ZGB (show(400:Int)<(t.length:Int)by omega)];rfl
   ·rw[ZGA h4,ZGF (show¬(400:Int)<(t.length:Int)by omega)];rfl
 ·intro R hR;have hk:=AG.kind hv;have h1:(c.2.2.1.map λn=>(-1:Int)*n)=c.2.2.1.map λn=>-n:=ZHA λn _=>by omega
  have h2:(c.2.2.1.map λn=>(1:Int)*n)=c.2.2.1:=Pd _;by_cases k0:c.1=0;·simp only[k0,ZHE,ZGC];refine⟨hpre _ _ (by omega) (by omega),hR _ ?_⟩;simp only[CI,k0,ZHa,IV,h1];rw[show(-1:Int)*c.2.2.2+-1*1=-1-c.2.2.2 by omega]
  ·by_cases k1:c.1=1;·simp only[k1,show((1:Int)==0)=false from rfl,ZHE,ZGC,ZF9];refine⟨hpre _ _ (by omega) (by omega),hpre _ _ (by omega) (by omega),hR _ ?_⟩;simp only[CI,k1,show(1:Int)≠0 by decide,ZHa,ZHM,IV,h1,h2];rw[show(-1:Int)*c.2.2.2+-1*1=-1-c.2.2.2 by omega,show(1:Int)*c.2.2.2+-1*1=c.2.2.2-1 by omega]
   ·simp only[beq_eq_false_iff_ne.2 k0,beq_eq_false_iff_ne.2 k1,ZF9];have ho:CI c=(List.range (c.2.1-1).toNat).map λ(r:Nat)=>((2,c.2.1,c.2.2.1,c.2.2.2-((r:Int)+1)):O):=by unfold CI;rw[ZGA k0,ZGA k1]
    have hm:1≤c.2.1∧c.2.1≤512:=by omega
    refine Lp.iter (c.2.1-1).toNat (λi y=>y=((i:Int)+1,(List.range i).map λ(r:Nat)=>((2,c.2.1,c.2.2.1,c.2.2.2-((r:Int)+1)):O))) rfl ?_;rintro i y hle rfl R' hR';by_cases e:i<(c.2.1-1).toNat;·simp only[ZGB (show(i:Int)+1<c.2.1 by omega),ZGC];refine⟨⟨by omega,by omega⟩,hpre _ _ (by omega) (by omega),⟨by simp;omega,by simp;omega⟩,⟨by omega,by omega⟩,hR' e _ ?_⟩;simp only[h2];rw[ZIT,ZGp,show(1:Int)*c.2.2.2+-((i:Int)+1)*1=c.2.2.2-((i:Int)+1)by omega];rfl
    ·simp only[ZGF (show¬(i:Int)+1<c.2.1 by omega),ZF9];refine hR _ ?_;rw[ho,show i=(c.2.1-1).toNat by omega]
theorem IZ.spec(n:Int):IZ.wp n λr=>r=IZ.fn (n,()):=⟨λh=>⟨h,trivial⟩,λh=>h,rfl⟩
theorem Es.spec(l:List Int)(hl:l.length≤9223372036854775807):Es.wp l λr=>r=Es.fn (l,()):=by
 have hfn:Es.fn (l,())=l.all DA:=rfl;simp only[Es.wp,hfn,IZ.fn];refine Lp.all l 0 DA hl ?_ ?_;·intro i R e e2 hf h1 h2;simp only[ZGB e2,ZGD,ZGC];refine⟨⟨by omega,by omega⟩,?_⟩;cases h:DA (l.getD i 0)with|true=>exact⟨hf,h1 h⟩|false=>exact(h2 h).symm
 ·intro R h;simp only[ZGH,ZGQ,ZF9];exact h.symm
theorem zN{a b:List Int}(ha:∀n∈a,DB n=true)(hb:∀n∈b,DA n=true)(s:Int):(a.zip b).foldlM NF s=some (s+A0 a b):=by rw[gU,ZGE];rw[ZHi];rintro⟨x,y⟩h;rw[ha x (List.of_mem_zip h).1,hb y (List.of_mem_zip h).2];rfl
theorem gM{a b:List Int}(ha:∀n∈a,DB n=true)(hb:∀n∈b,DA n=true):-(4503599627370496*(a.length:Int))≤A0 a b∧A0 a b≤4503599627370496*(a.length:Int):=by have :=gV (zN ha hb 0);simp only[List.length_zip]at this;omega
theorem gT{a b:List Int}{i:Nat}(h:i<a.length)(h2:i<b.length):A0 (a.take (i+1)) (b.take (i+1))=A0 (a.take i) (b.take i)+a.getD i 0*b.getD i 0:=by
 rw[B0 0 h,B0 0 h2];have key:∀(u v:List Int)(x y:Int),u.length=v.length→A0 (u++[x]) (v++[y])=A0 u v+x*y:=by intro u;induction u with
  |nil=>intro v x y h;cases v with|nil=>simp[A0]|cons _ _=>simp at h
  |cons p u ih=>intro v x y h;cases v with|nil=>simp at h|cons q v=>simp only[ZHb,A0];rw[ih v x y (by simpa using h)];omega
 exact key _ _ _ _ (by simp;omega)
theorem Fj.spec(l:AN)(p:List Int)(hp:Fj.pre (l,p,())):Fj.wp l p λr=>r=Fj.fn (l,p,()):=by
 obtain⟨hv,hl,hc⟩:=hp;simp only at hv hl hc;obtain⟨h1,h2,h3⟩:=Bo.b hv;have hfn:Fj.fn (l,p,())=l.2+A0 l.1 p:=rfl;have hfa:∀n∈l.1,DB n=true:=λn hn=>TV.2 (h2 n hn);simp only[Fj.wp,hfn];refine Lp.iter l.1.length (λi y=>y=((i:Int),l.2+A0 (l.1.take i) (p.take i))) (by simp[A0]) ?_;rintro i y hle rfl R hR;by_cases e:i<l.1.length
 ·have e2:i<p.length:=by omega
  have hb:=gM (a:=l.1.take i) (b:=p.take i) (λn hn=>hfa n (ZGl hn)) λn hn=>hc n (ZGl hn);have Ab:(l.1.take i).length=i:=by simp;omega
  rw[Ab]at hb;have hx:=h2 _ (AV (d:=0) e);have hy:=fX.1 (hc _ (AV (d:=0) e2));have hm:=Ln (n:=1048576) (m:=4294967296) (by omega) (by omega) hx.1 hx.2 hy.1 hy.2;have ht:=gT e e2;simp only[ZGB (show(i:Int)<(l.1.length:Int)by omega),ZGD,ZGC];generalize l.1.getD i 0*p.getD i 0=v at*;refine⟨⟨by omega,by omega⟩,⟨by omega,by omega⟩,⟨by omega,by omega⟩,⟨by omega,by omega⟩,⟨by omega,by omega⟩,hR e _ ?_⟩;rw[ht,Int.add_assoc];rfl
 ·have :i=l.1.length:=by omega
  subst this;simp only[ZGH,ZGQ,ZF9,ZGN];rw[hl,ZGN]
theorem Fl.spec(c:O)(p:List Int)(hp:Fl.pre (c,p,())):Fl.wp c p λr=>r=Fl.fn (c,p,()):=by
 obtain⟨hv,hl,hc⟩:=hp;simp only at hv hl hc;have hk:=AG.kind hv;have hfn:Fl.fn (c,p,())=JB c (c.2.2.2+A0 c.2.2.1 p):=rfl;simp only[Fl.wp,Fj.fn,hfn];refine⟨⟨AG.lin hv,hl,hc⟩,?_⟩;unfold JB;by_cases k0:c.1=0;·rw[ZGE k0];simp only[k0,ZHE,ZGC]
 ·by_cases k1:c.1=1;·rw[ZGA k0,ZGE k1];simp only[k1,show((1:Int)==0)=false from rfl,ZHE,ZGC,ZF9]
  ·rw[ZGA k0,ZGA k1];simp only[beq_eq_false_iff_ne.2 k0,beq_eq_false_iff_ne.2 k1,ZF9];exact⟨by omega,trivial⟩
theorem Ea.spec(q:List O)(p:List Int)(hl:q.length≤9223372036854775807)(hp:Ea.pre (q,p,())):Ea.wp q p λr=>r=Ea.fn (q,p,()):=by
 have hp':∀c∈q,Oa c p:=hp;have hfn:Ea.fn (q,p,())=q.all λc=>BI c p:=rfl;simp only[Ea.wp,hfn,Fl.fn];refine Lp.all q U (λc=>BI c p) hl ?_ ?_;·intro i R e e2 hf h1 h2;simp only[ZGB e2,ZGD,ZGC];refine⟨⟨by omega,by omega⟩,hp' _ (AV e),?_⟩;cases h:BI (q.getD i U) p with|true=>exact⟨hf,h1 h⟩|false=>exact(h2 h).symm
 ·intro R h;simp only[ZGH,ZGQ,ZF9];exact h.symm
theorem Cs.spec(s:AM)(p:List Int)(hl:s.2.length≤9223372036854775807)(hp:Cs.pre (s,p,())):Cs.wp s p λr=>r=Cs.fn (s,p,()):=by
 have hp':∀q∈s.2,∀c∈q,Oa c p:=hp;have hfn:Cs.fn (s,p,())=!s.2.all λq=>!q.all λc=>BI c p:=by show(s.2.any λq=>q.all λc=>BI c p)=_;rw[List.not_all_eq_any_not];simp
 simp only[Cs.wp,hfn,Ea.fn];refine Lp.all s.2 [] (λq=>!q.all λc=>BI c p) hl ?_ ?_;·intro i R e e2 hf h1 h2;simp only[ZGB e2,ZGD,ZGC];refine⟨⟨by omega,by omega⟩,hp' _ (AV e),?_⟩;cases h:(s.2.getD i []).all λc=>BI c p with|false=>exact⟨hf,h1 (by rw[h];rfl)⟩|true=>show true=_;rw[h2 (by rw[h];rfl)];rfl
 ·intro R h;simp only[ZGH,ZGQ,ZF9];rw[h];rfl
abbrev Il(b:List O)(acc:List (List O))(a:List O):Option (List (List O)):=if(CT a b).2≠0 then none else some (acc++(CT a b).1)
theorem ZEi(a b:List (List O)):Bg (a++b)=(Bg a).bind λout=>b.foldlM BT out:=by unfold Bg;rw[ZHq];rfl
theorem fC(b:List O):∀(cur acc:List (List O)),(cur.foldlM (Il b) acc).bind Bg=(Bg acc).bind λout=>cur.foldlM (Jp b) out
 |[],acc=>by show Bg acc=(Bg acc).bind some;cases Bg acc<;>rfl|a::cur,acc=>by
  simp only[ZGc];by_cases h:(CT a b).2=0;·have e1:Il b acc a=some (acc++(CT a b).1):=ZGA λh2=>h2 h;have e2:∀out,Jp b out a=(CT a b).1.foldlM BT out:=λout=>ZGA λh2=>h2 h;rw[e1];show(cur.foldlM (Il b) (acc++(CT a b).1)).bind Bg=_;rw[fC b cur,ZEi];simp only[e2];cases Bg acc<;>rfl
  ·have e1:Il b acc a=none:=ZGE h;have e2:∀out,Jp b out a=none:=λout=>ZGE h;rw[e1];simp only[e2];cases Bg acc<;>rfl
theorem ZCi(cur:List (List O))(b:List O):Jc cur b=(cur.foldlM (Il b) []).bind Bg:=(fC b cur []).symm
theorem fZ{a b:List O}{n:Nat}(ha:A3 a n)(hv:Cv b)(hb:A3 b n):∀p∈(CT a b).1,A3 p n:=by
 unfold CT;split;·simp
 ·split;·intro p hp;simp only[ZGT]at hp;subst hp;exact ha
  ·have key:∀(l:List Nat)(out out':List (List O)),(∀i∈l,i<b.length)→l.foldlM (F8 a b) out=some out'→(∀p∈out,A3 p n)→∀p∈out',A3 p n:=by intro l;induction l with|nil=>intro out out' _ h h3;cases h;exact h3|cons i l ih=>
    intro out out' hl h h3;simp only[ZGc,ZGv,ZGs]at h;obtain⟨s,h1,h2⟩:=h;refine ih s out' (λj hj=>hl j (by simp[hj])) h2 ?_;have hm:=AV (d:=U) (hl i (by simp));have hn:=ZCq (hv.2 _ hm);unfold F8 at h1;split at h1;·cases h1
    ·cases h1;intro p hp;rcases List.mem_append.1 hp with hp|hp;·exact h3 p hp
     ·obtain⟨o,ho,rfl⟩:=List.mem_map.1 hp;intro c hc;rcases List.mem_append.1 hc with hc|hc;·exact ha c hc
      ·rcases List.mem_append.1 hc with hc|hc;·exact hb c (ZGl hc)
       ·simp only[ZGT]at hc;subst hc;rw[hn c ho,hb _ hm]
   rcases CN ((List.range b.length).foldlM (F8 a b) [])with h|⟨out,h⟩;·rw[h];simp
   ·rw[h];exact key _ _ _ (λi hi=>List.mem_range.1 hi) h (by simp)
theorem fA{b:List O}(hb:Cv b){n:Nat}(D3:A3 b n):∀{l acc acc':List (List O)},l.foldlM (Il b) acc=some acc'→(∀p∈acc,BN p∧A3 p n)→(∀p∈l,Cv p∧A3 p n)→acc'.length≤acc.length+4194304*l.length∧∀p∈acc',BN p∧A3 p n
 |[],acc,acc',h,h1,_=>by cases h;exact⟨by simp,h1⟩|a::l,acc,acc',h,h1,hv=>by
  simp only[ZGc,ZGv,ZGs]at h;obtain⟨s,h2,h3⟩:=h;obtain⟨RN,Ke⟩:=hv a (by simp);obtain⟨hcl,Xw⟩:=TF RN hb;unfold Il at h2;split at h2;·cases h2
  ·cases h2;obtain⟨h4,h5⟩:=fA hb D3 h3 (λp hp=>(List.mem_append.1 hp).elim (h1 p) λhp=>⟨Xw p hp,fZ Ke hb D3 p hp⟩) λp hp=>hv p (by simp[hp]);refine⟨?_,h5⟩;simp only[ZGI,ZGL]at*;omega
theorem yW{a b:List O}(h0:(Af (a++b)).2.2=0)(h1:(Af (a++b)).2.1=true):CT a b=([a],0):=by simp[CT,h0,h1]
theorem fB{a b:List O}{acc r:List (List O)}(h:CT a b=(r,0)):Il b acc a=some (acc++r):=by simp[Il,h]
theorem H2.spec(x y:AM):H2.wp x y λr=>r=H2.fn (x,y,()):=by
 have hfn:H2.fn (x,y,())=D8 x y:=rfl;simp only[H2.wp,Hb.fn,hfn,FK.fn,Dm.fn,EZ.fn,Ha.fn,EF.fn];by_cases he:JJ x y=0
 ·obtain⟨hvx,hvy,RR⟩:=xO he;have hM:D8 x y=if(AX x).2≠0∨(AX y).2≠0 then((0,[]),3)else GO x.1 ((AX y).1.2.foldlM Jc (AX x).1.2):=by unfold D8;exact ZGA λh=>h he
  simp only[he,ZGb,ZF9];refine⟨λh=>⟨h,trivial⟩,λh=>by rw[h];rfl,?_⟩;by_cases hx:(AX x).2=0
  ·by_cases hy:(AX y).2=0
   ·simp only[hx,hy,ZGb,ZIW,ZF9,ZJy,ZI8,or_self,ZHM]at hM⊢;obtain⟨pX,eX⟩:=Rm hx;obtain⟨pY,eY⟩:=Rm hy;have dX:=Zp hvx hx;have dY:=Zp hvy hy;rw[←RR]at dY;generalize(AX x).1.2=X at*;generalize(AX y).1.2=Y at*;generalize x.1.toNat=n at*;have hYl:=pY.1;refine Lp.iter Y.length (λi z=>∃cur,z=((i:Int),cur)∧(Y.take i).foldlM Jc X=some cur∧∀p∈cur,A3 p n) ⟨X,rfl,rfl,dX⟩ ?_;rintro i z hle⟨cur,rfl,ht,hdc⟩R hR;have pC:=Zi ht pX λp hp=>pY.v (ZGl hp);by_cases e:i<Y.length
    ·simp only[ZGB (show(i:Int)<(Y.length:Int)by omega),ZGD,ZGC];refine⟨⟨by omega,by omega⟩,?_⟩;have Nu:=pY.v (AV (d:=[]) e);have Tu:=dY _ (AV (d:=[]) e);have hsn:=KW (d:=[]) ht e;have KB:=NM (d:=[]) ht e;have hT:Jc cur (Y.getD i [])=none→D8 x y=((0,[]),3):=λh=>by rw[hM,KB h];rfl
     rw[ZCi]at hsn hT;have hCl:=pC.1;have O8:=(pY.2 _ (AV (d:=[]) e)).1;refine Lp.iter cur.length (λj z=>∃acc,z=((j:Int),acc)∧(cur.take j).foldlM (Il (Y.getD i [])) []=some acc) ⟨[],rfl,rfl⟩ ?_;rintro j z Q3⟨acc,rfl,HN⟩R2 BJ;obtain⟨hal,hab⟩:=fA Nu Tu HN (by simp) λp hp=>⟨pC.v (ZGl hp),hdc p (ZGl hp)⟩;simp only[ZGS,ZGP]at hal;by_cases e2:j<cur.length
     ·simp only[ZGB (show(j:Int)<(cur.length:Int)by omega),ZGD,ZGC];have RN:=pC.v (AV (d:=[]) e2);have Ke:=hdc _ (AV (d:=[]) e2);have ZFf:=(pC.2 _ (AV (d:=[]) e2)).1;have hsn2:=KW (d:=[]) HN e2;have Nh:Il (Y.getD i []) acc (cur.getD j [])=none→D8 x y=((0,[]),3):=λh=>hT (by rw[NM (d:=[]) HN e2 h];rfl);have DX:∀acc',Il (Y.getD i []) acc (cur.getD j [])=some acc'→R2 ((j:Int)+1,acc'):=λacc' h=>BJ e2 _ ⟨acc',rfl,hsn2.trans h⟩;refine⟨⟨by omega,by omega⟩,⟨by show(cur.getD j []).length≤_;omega,by show(Y.getD i []).length≤_;omega⟩,wT (pC.2 _ (AV (d:=[]) e2)) (pY.2 _ (AV (d:=[]) e)) Ke Tu,?_⟩;clear hsn2 BJ hsn hT hR;by_cases h0:(Af ( cur.getD j []++Y.getD i [])).2.2=0
      ·simp only[h0,ZGb,ZF9];by_cases h1:(Af ( cur.getD j []++Y.getD i [])).2.1=true;·simp only[h1,ZGC];have Co:CT (cur.getD j []) (Y.getD i [])=([cur.getD j []],0):=yW h0 h1;refine⟨⟨by simp;omega,by simp;omega⟩,⟨by omega,by omega⟩,DX _ (fB Co)⟩
       ·rw[ZHs]at h1;simp only[h1,ZF9];have Co:CT (cur.getD j []) (Y.getD i [])=match(List.range (Y.getD i []).length).foldlM (F8 (cur.getD j []) (Y.getD i [])) []with|none=>([],3)|some out=>(out,0):=by unfold CT;exact(ZGA λh=>h h0).trans (ZGA (by rw[h1];simp))
        have Gv:(List.range (Y.getD i []).length).length=(Y.getD i []).length:=by simp
        refine Lp.iter (Y.getD i []).length (λk z=>∃out,z=((k:Int),acc++out)∧((List.range (Y.getD i []).length).take k).foldlM (F8 (cur.getD j []) (Y.getD i [])) []=some out) ⟨[],by simp,rfl⟩ ?_;rintro k z ZBR⟨out,rfl,Kq⟩R3 IE;have C2:=TH Nu (λm hm=>by have :=ZGl hm;simpa using this) Kq;simp only[ZGS,ZGP,Gv]at C2;by_cases e3:k<(Y.getD i []).length
        ·have hsn3:=KW (d:=0) Kq (by rw[Gv];exact e3);have mD:=NM (d:=0) Kq (by rw[Gv];exact e3);rw[aD e3]at hsn3 mD;simp only[ZGB (show(k:Int)<((Y.getD i []).length:Int)by omega),ZGD,ZGC];have Ng:=Uv (Nu.2 _ (AV (d:=U) e3));refine⟨⟨by omega,by omega⟩,?_⟩;by_cases hn:(Cr ((Y.getD i []).getD k U)).2=0
         ·simp only[hn,ZGb,ZF9];have hcs:F8 (cur.getD j []) (Y.getD i []) out k=some (out++(Cr ((Y.getD i []).getD k U)).1.map λo=>cur.getD j []++((Y.getD i []).take k++[o])):=ZGA λh=>h hn;have h4:=Ng.2.1;refine Lp.iter (Cr ((Y.getD i []).getD k U)).1.length (λm y=>y=((m:Int),acc++out++((Cr ((Y.getD i []).getD k U)).1.take m).map λo=>cur.getD j []++((Y.getD i []).take k++[o]))) (by simp) ?_;rintro m y Kk rfl R' hR';by_cases e4:m<(Cr ((Y.getD i []).getD k U)).1.length
          ·simp only[ZGB (show(m:Int)<((Cr ((Y.getD i []).getD k U)).1.length:Int)by omega),ZGD,ZGC];refine⟨⟨by omega,by omega⟩,⟨by omega,by omega⟩,⟨by show(cur.getD j []).length≤_;omega,by show((Y.getD i []).take k).length≤_;simp only[ZGI,ZGP];omega⟩,⟨by show( cur.getD j []++(Y.getD i []).take k).length≤_;simp only[ZGI,ZGP];omega,by simp⟩,⟨?_,?_⟩,⟨by omega,by omega⟩,hR' e4 _ ?_⟩;·simp only[ZGI,ZGM,ZGP,ZGL,ZGS];omega
           ·simp only[ZGI,ZGM,ZGP,ZGL,ZGS];omega
           ·rw[B0 U e4,ZGp,ZGy (cur.getD j [])];exact ZGr (Prod.mk ((m:Int)+1)) (ZGy _ _ _)
          ·have :m=(Cr ((Y.getD i []).getD k U)).1.length:=by omega
           subst this;simp only[ZGH,ZGQ,ZF9,ZGN];refine⟨⟨by omega,by omega⟩,IE e3 _ ⟨_,?_,hsn3.trans hcs⟩⟩;rw[ZGy];rfl
         ·simp only[bne_iff_ne.2 hn,ZGC];have :Il (Y.getD i []) acc (cur.getD j [])=none:=by refine ZGE ?_;rw[Co,mD (ZGE hn)];decide
          rw[Nh this,Ng.1.resolve_left hn]
        ·have :k=(Y.getD i []).length:=by omega
         subst this;simp only[ZGH,ZGQ,ZF9];rw[ZHt (by rw[Gv];exact ZGR _)]at Kq;rw[Kq]at Co;exact⟨⟨by omega,by omega⟩,DX _ (fB Co)⟩
      ·simp only[bne_iff_ne.2 h0,ZGC];have Co:CT (cur.getD j []) (Y.getD i [])=([],3):=ZGE h0;rw[Nh (ZGE (by rw[Co];decide)),((Ve _).resolve_left h0).1]
     ·have :j=cur.length:=by omega
      subst this;simp only[ZGH,ZGQ,ZF9];rw[ZGN]at HN;rw[HN,ZHc]at hsn hT;refine⟨⟨by simp only;omega,λp hp=>⟨(hab p hp).1,n,(hab p hp).2⟩⟩,?_⟩;rcases CN (Bg acc)with h5|⟨out,h5⟩;·rw[h5];rw[hT h5];rfl
      ·rw[h5];refine⟨⟨by omega,by omega⟩,hR e _ ⟨out,rfl,hsn.trans h5,SV h5 (by simp) hab⟩⟩
    ·have :i=Y.length:=by omega
     subst this;simp only[ZGH,ZGQ,ZF9];rw[ZGN]at ht;rw[hM,ht];rfl
   ·simp only[bne_iff_ne.2 hy,ZHo,ZGC];rw[hM,ZGE (.inr hy)]
  ·simp only[bne_iff_ne.2 hx,ZHp,ZGC];rw[hM,ZGE (.inl hx)]
 ·rw[bne_iff_ne.2 he];simp[D8,he]
theorem N3(C:List Int):A5 (A5 C)=C:=by
 unfold A5;rw[ZHP];conv=>rhs;rw[←ZJK C]
 exact ZHA λn _=>by simp
theorem jL(C:List Int):AW (A5 C)=AW C:=by unfold AW A5;rw[List.foldl_map];simp
theorem TU:∀{C:List Int},AW C≠0→D2 (A5 C)=!D2 C
 |[],h=>by simp[AW]at h|n::C,h=>by
  simp only[A5,ZGi,D2];by_cases h0:n=0;·subst h0;rw[Td]at h;simp at h;simp only[Int.neg_zero,ZHa];exact TU h
  ·rw[ZGA h0,ZGA (show-n≠0 by omega)];by_cases h1:n<0;·rw[ZGB h1,ZGF (show¬-n<0 by omega)];rfl
   ·rw[ZGF h1,ZGB (show-n<0 by omega)];rfl
theorem qD{C:List Int}(h:AW C=1):A5 C≠C:=λe=>by have :=TU (C:=C) (by omega);rw[e]at this;cases h2:D2 C<;>rw[h2]at this<;>cases this
abbrev F6(c:O):O:=(Ae (1,0,c.2.2)).1
theorem tY{c d:O}(h:AW c.2.2.1=1)(h1:d.2.2.1=A5 c.2.2.1)(h2:c.2.2.2+d.2.2.2=0):F6 d=F6 c:=by
 obtain⟨k,m,C,K⟩:=c;obtain⟨k',m',C',K'⟩:=d;simp only at h h1 h2;subst h1;have h3:K'=-K:=by omega
 subst h3;have hf:=TU (C:=C) (by omega);have hs:CV (1,0,A5 C,-K)=-CV (1,0,C,K):=by simp only[CV,jL,hf];cases D2 C<;>simp
 have ha:∀s K:Int,∀C:List Int,AW C=1→CU (1,0,C,K)=((1,0,C.map (·.tdiv (CV (1,0,C,K))),K.tdiv (CV (1,0,C,K))),0):=λs K C hC=>by
  have :¬(AW C=0∨K.tmod (AW C)≠0):=by
   rw[hC];rintro(h|h);·omega
   ·exact h (tmod_one _)
  unfold CU;exact ZGA this
 show(CU (1,0,A5 C,-K)).1=(CU (1,0,C,K)).1;rw[ha 0 _ _ h,ha 0 _ _ (by rw[jL];exact h),hs];simp only[A5,ZHP,ZKA,Int.neg_tdiv,ZLH];congr 4;funext n;simp
def Mk(n:Nat)(c:O):Prop:=Mi n c∧IT c.1∧(c.1=0→c.2.1=0)
theorem Mk.gcd{n:Nat}{c:O}(h:Mk n c)(h0:c.1=0):AW c.2.2.1=1:=h.1.2.1 (by omega)
theorem KM{n:Nat}{c:O}(h:Mk n c)(h0:c.1=0):Mk n (F6 c)∧(F6 c).1=1:=by obtain⟨h1,h2,h3⟩:=iN h.1 h0;exact⟨⟨h2,.inr (.inl h3),λh=>by rw[h3]at h;cases h⟩,h3⟩
def Lm(l:List O)(c:O):Prop:=c∈l∧(c.1=0→∀d∈l,d.1=0→d.2.2.1=c.2.2.1→c.2.2.2≤d.2.2.2)
theorem Lm.uniq{n:Nat}{l:List O}(hl:∀c∈l,Mk n c){c d:O}(hc:Lm l c)(hd:Lm l d)(h0:c.1=0)(h1:d.1=0)(h:c.2.2.1=d.2.2.1):c=d:=by have a:=hc.2 h0 d hd.1 h1 h.symm;have b:=hd.2 h1 c hc.1 h0 h;have e1:=(hl c hc.1).2.2 h0;have e2:=(hl d hd.1).2.2 h1;exact ZIU (by omega) (ZIU (by omega) (ZIU h (by omega)))
def FM(L:O→Prop)(c:O):Prop:=∃d,L d∧d.1=0∧d.2.2.1=A5 c.2.2.1∧c.2.2.2+d.2.2.2=0
def Ii(L:O→Prop):Prop:=∃c d,L c∧L d∧c.1=0∧d.1=0∧d.2.2.1=A5 c.2.2.1∧c.2.2.2+d.2.2.2<0
def MM(L:O→Prop)(x:O):Prop:=L x∧(x.1=0→¬FM L x)∨∃c,L c∧c.1=0∧FM L c∧x=F6 c
def Hm(M:O→Prop):Prop:=(∃e f,M e∧M f∧e.1=1∧f.1=1∧e.2.2.1=f.2.2.1∧e.2.2.2≠f.2.2.2)∨∃c e,M c∧M e∧c.1=0∧e.1=1∧( e.2.2.1=c.2.2.1∧c.2.2.2<e.2.2.2∨e.2.2.1=A5 c.2.2.1∧c.2.2.2+e.2.2.2<0)
def Lt(M:O→Prop)(x:O):Prop:=M x∧(x.1=0→∀e,M e→e.1=1→e.2.2.1≠x.2.2.1∧e.2.2.1≠A5 x.2.2.1)
theorem vZ{l:List O}{c:O}(h:c.1≠0)(x:O):Lm (l++[c]) x↔Lm l x∨x=c:=by
 simp only[Lm,ZGa,ZGT];constructor
 ·rintro⟨h1|h1,h2⟩;·exact .inl ⟨h1,λh0 d hd=>h2 h0 d (.inl hd)⟩
  ·exact .inr h1
 ·rintro(⟨h1,h2⟩|rfl)
  ·refine⟨.inl h1,λh0 d hd hd0=>?_⟩;rcases hd with hd|rfl;·exact h2 h0 d hd hd0
   ·exact absurd hd0 h
  ·exact⟨.inr rfl,λh0=>absurd h0 h⟩
theorem Vu{n:Nat}{l:List O}{c:O}(hl:∀d∈l,Mk n d)(hc:Mk n c)(h:c.1=0)(x:O):Lm (l++[c]) x↔Lm l x∧¬(x.1=0∧x.2.2.1=c.2.2.1)∨x.1=0∧x.2.2.1=c.2.2.1∧((∃d,Lm l d∧d.1=0∧d.2.2.1=c.2.2.1∧x=Dw d c.2.2.2)∨¬(∃d,Lm l d∧d.1=0∧d.2.2.1=c.2.2.1)∧x=c):=by
 have A4:∀y,y∈l++[c]↔y∈l∨y=c:=λy=>by simp
 have J9:∀(y:O),y∈l→y.1=0→∃d,Lm l d∧d.1=0∧d.2.2.1=y.2.2.1∧d.2.2.2≤y.2.2.2:=by
  have key:∀(m:List O),(∀y∈m,y∈l)→∀y∈m,y.1=0→∃d∈m,d.1=0∧d.2.2.1=y.2.2.1∧d.2.2.2≤y.2.2.2∧∀z∈m,z.1=0→z.2.2.1=y.2.2.1→d.2.2.2≤z.2.2.2:=by intro m;induction m with|nil=>intro _ y hy;cases hy|cons a m ih=>
   intro hs y hy h0;have ih':=ih λz hz=>hs z (by simp[hz]);rcases List.mem_cons.1 hy with rfl|hy
   ·by_cases hex:∃z∈m,z.1=0∧z.2.2.1=y.2.2.1
    ·obtain⟨z,hz,B6,hz1⟩:=hex;obtain⟨d,hd,hd0,hd1,EI,Jy⟩:=ih' z hz B6;by_cases Ab:d.2.2.2≤y.2.2.2
     ·refine⟨d,by simp[hd],hd0,hd1.trans hz1,Ab,λw hw JZ hw1=>?_⟩;rcases List.mem_cons.1 hw with rfl|hw;·exact Ab
      ·exact Jy w hw JZ (hw1.trans hz1.symm)
     ·refine⟨y,by simp,h0,rfl,ZH4 _,λw hw JZ hw1=>?_⟩;rcases List.mem_cons.1 hw with rfl|hw;·exact ZH4 _
      ·have :=Jy w hw JZ (hw1.trans hz1.symm);omega
    ·refine⟨y,by simp,h0,rfl,ZH4 _,λw hw JZ hw1=>?_⟩;rcases List.mem_cons.1 hw with rfl|hw;·exact ZH4 _
     ·exact absurd ⟨w,hw,JZ,hw1⟩ hex
   ·obtain⟨d,hd,hd0,hd1,EI,Jy⟩:=ih' y hy h0;by_cases ha:a.1=0∧a.2.2.1=y.2.2.1∧a.2.2.2<d.2.2.2
    ·refine⟨a,by simp,ha.1,ha.2.1,by omega,λw hw JZ hw1=>?_⟩;rcases List.mem_cons.1 hw with rfl|hw;·exact ZH4 _
     ·have :=Jy w hw JZ hw1;omega
    ·refine⟨d,by simp[hd],hd0,hd1,EI,λw hw JZ hw1=>?_⟩;rcases List.mem_cons.1 hw with rfl|hw;·apply ZJ9;intro YO;exact ha ⟨JZ,hw1,YO⟩
     ·exact Jy w hw JZ hw1
  intro y hy h0;obtain⟨d,hd,hd0,hd1,EI,Jy⟩:=key l (λy h=>h) y hy h0;exact⟨d,⟨hd,λ_ z hz B6 hz1=>Jy z hz B6 (hz1.trans hd1)⟩,hd0,hd1,EI⟩
 have heq:∀(y z:O),Mk n y→Mk n z→y.1=0→z.1=0→y.2.2.1=z.2.2.1→y.2.2.2=z.2.2.2→y=z:=λy z hy hz h1 h2 h3 h4=>by have e1:=hy.2.2 h1;have e2:=hz.2.2 h2;exact ZIU (by omega) (ZIU (by omega) (ZIU h3 h4))
 constructor
 ·rintro⟨hx,CB⟩;by_cases DZ:x.1=0∧x.2.2.1=c.2.2.1
  ·right;refine⟨DZ.1,DZ.2,?_⟩;have lY:=CB DZ.1;have NX:=lY c ((A4 c).2 (.inr rfl)) h DZ.2.symm;by_cases hex:∃d,Lm l d∧d.1=0∧d.2.2.1=c.2.2.1
   ·left;obtain⟨d,hd,hd0,hd1⟩:=hex;have hdx:=lY d ((A4 d).2 (.inl hd.1)) hd0 (hd1.trans DZ.2.symm);have Kj:=hl d hd.1;refine⟨d,hd,hd0,hd1,?_⟩;rcases(A4 x).1 hx with GG|rfl;·have h3:=hd.2 hd0 x GG DZ.1 (DZ.2.trans hd1.symm);refine heq x (Dw d c.2.2.2) (hl x GG) Kj DZ.1 hd0 (DZ.2.trans hd1.symm) ?_;show x.2.2.2=min d.2.2.2 c.2.2.2;omega
    ·refine heq x (Dw d x.2.2.2) hc Kj DZ.1 hd0 hd1.symm ?_;show x.2.2.2=min d.2.2.2 x.2.2.2;omega
   ·right;refine⟨hex,?_⟩;rcases(A4 x).1 hx with GG|rfl;·obtain⟨d,hd,hd0,hd1,_⟩:=J9 x GG DZ.1;exact absurd ⟨d,hd,hd0,hd1.trans DZ.2⟩ hex
    ·rfl
  ·left;refine⟨?_,DZ⟩;rcases(A4 x).1 hx with GG|rfl;·exact⟨GG,λh0 d hd=>CB h0 d ((A4 d).2 (.inl hd))⟩
   ·exact absurd ⟨h,rfl⟩ DZ
 ·rintro(⟨hx,DZ⟩|⟨h0,DZ,⟨d,hd,hd0,hd1,rfl⟩|⟨hex,rfl⟩⟩)
  ·refine⟨(A4 x).2 (.inl hx.1),λh0 d hd hd0 hd1=>?_⟩;rcases(A4 d).1 hd with hd|rfl;·exact hx.2 h0 d hd hd0 hd1
   ·exact absurd ⟨h0,hd1.symm⟩ DZ
  ·have Kj:=hl d hd.1;refine⟨?_,λ_ z hz B6 hz1=>?_⟩
   ·by_cases Ab:d.2.2.2≤c.2.2.2;·have :Dw d c.2.2.2=d:=heq _ _ Kj Kj hd0 hd0 rfl (by show min d.2.2.2 c.2.2.2=_;omega);rw[this];exact(A4 d).2 (.inl hd.1)
    ·have :Dw d c.2.2.2=c:=heq _ _ Kj hc hd0 h hd1 (by show min d.2.2.2 c.2.2.2=_;omega);rw[this];exact(A4 c).2 (.inr rfl)
   ·show min d.2.2.2 c.2.2.2≤_;rcases(A4 z).1 hz with hz|rfl;·have :=hd.2 hd0 z hz B6 hz1;omega
    ·omega
  ·refine⟨(A4 x).2 (.inr rfl),λ_ z hz B6 hz1=>?_⟩;rcases(A4 z).1 hz with hz|rfl;·obtain⟨d,hd,hd0,hd1,_⟩:=J9 z hz B6;exact absurd ⟨d,hd,hd0,hd1.trans hz1⟩ hex
   ·exact ZH4 _
theorem ZB4{C:List Int}{out:List O}(h:GI C out=none):∀d∈out,¬(d.1=0∧d.2.2.1=C):=by intro d hd;have :=List.findIdx?_eq_none_iff.1 h d hd;simpa using this
def wB(out:List O):Prop:=∀i j,i<out.length→j<out.length→(out.getD i U).1=0→(out.getD j U).1=0→(out.getD i U).2.2.1=(out.getD j U).2.2.1→i=j
theorem Pa{n:Nat}:∀{l:List O},(∀c∈l,Mk n c)→∀x,x∈Cq l↔Lm l x:=by
 intro l hl;have key:∀k,k≤l.length→(∀x,x∈Cq (l.take k)↔Lm (l.take k) x)∧wB (Cq (l.take k)):=by intro k;induction k with|zero=>exact λ_=>⟨λx=>by simp[Cq,Lm],λi j hi=>by simp[Cq]at hi⟩|succ k ih=>
  intro hk;obtain⟨ih1,ih2⟩:=ih (by omega);have e:k<l.length:=by omega
  have BO:Cq (l.take (k+1))=GM (Cq (l.take k)) (l.getD k U):=by rw[B0 U e,Cq,ZHC];rfl
  rw[BO,B0 U e];have hc:=hl _ (AV (d:=U) e);have UA:∀d∈l.take k,Mk n d:=λd hd=>hl d (ZGl hd);generalize l.getD k U=c at*;generalize l.take k=m at*;generalize Cq m=out at*;by_cases h0:c.1=0
  ·have Q6:GM out c=match GI c.2.2.1 out with|some i=>out.set i (Dw (out.getD i U) c.2.2.2)|none=>out++[c]:=by unfold GM;exact ZGA λh=>h h0
   rw[Q6];rcases CN (GI c.2.2.1 out)with hg|⟨i,hg⟩
   ·rw[hg];have Bz:=ZB4 hg;constructor
    ·intro x;rw[Vu UA hc h0];simp only[ZGa,ZGT];constructor
     ·rintro(hx|rfl);·exact .inl ⟨(ih1 x).1 hx,Bz x hx⟩
      ·exact .inr ⟨h0,rfl,.inr ⟨λ⟨d,hd,hd0,hd1⟩=>Bz d ((ih1 d).2 hd) ⟨hd0,hd1⟩,rfl⟩⟩
     ·rintro(⟨hx,_⟩|⟨_,_,⟨d,hd,hd0,hd1,_⟩|⟨_,rfl⟩⟩);·exact .inl ((ih1 x).2 hx)
      ·exact absurd ⟨hd0,hd1⟩ (Bz d ((ih1 d).2 hd))
      ·exact .inr rfl
    ·intro i j hi hj hi0 Hv hij;simp only[ZGI,ZGL,ZGS]at hi hj;have BR:∀i,i<out.length→(out++[c]).getD i U=out.getD i U:=λi hi=>by rw[A6 (by simp;omega),A6 hi,ZIp hi]
     have J7:(out++[c]).getD out.length U=c:=by rw[A6 (by simp)];simp
     by_cases h1:i<out.length<;>by_cases h2:j<out.length;·rw[BR i h1]at hi0 hij;rw[BR j h2]at Hv hij;exact ih2 i j h1 h2 hi0 Hv hij
     ·have :j=out.length:=by omega
      subst this;rw[BR i h1]at hi0 hij;rw[J7]at hij;exact absurd ⟨hi0,hij⟩ (Bz _ (AV h1))
     ·have :i=out.length:=by omega
      subst this;rw[BR j h2]at Hv hij;rw[J7]at hij;exact absurd ⟨Hv,hij.symm⟩ (Bz _ (AV h2))
     ·omega
   ·rw[hg];simp only;obtain⟨hi,hi0,hi1⟩:=Y9 hg;have hgi:=A6 (d:=U) hi;rw[←hgi]at hi0 hi1;have NZ:=AV (d:=U) hi;constructor
    ·intro x;rw[Vu UA hc h0];constructor
     ·intro hx;obtain⟨j,hj,rfl⟩:=Fe (d:=U) hx;rw[ZHr]at hj;by_cases hij:i=j
      ·subst hij;have e1:(out.set i (Dw (out.getD i U) c.2.2.2)).getD i U=Dw (out.getD i U) c.2.2.2:=by rw[A6 (by simpa using hj),ZHk]
       rw[e1];exact .inr ⟨hi0,hi1,.inl ⟨_,(ih1 _).1 NZ,hi0,hi1,rfl⟩⟩
      ·have e1:(out.set i (Dw (out.getD i U) c.2.2.2)).getD j U=out.getD j U:=by rw[A6 (by simpa using hj),ZIZ hij,A6 hj]
       rw[e1];refine .inl ⟨(ih1 _).1 (AV hj),λh=>hij (ih2 i j hi hj hi0 h.1 (hi1.trans h.2.symm))⟩
     ·rintro(⟨hx,DZ⟩|⟨UV,DZ,⟨d,hd,hd0,hd1,rfl⟩|⟨hex,rfl⟩⟩)
      ·obtain⟨j,hj,rfl⟩:=Fe (d:=U) ((ih1 x).2 hx);have hij:i≠j:=λe=>by subst e;exact DZ ⟨hi0,hi1⟩
       have e1:(out.set i (Dw (out.getD i U) c.2.2.2)).getD j U=out.getD j U:=by rw[A6 (by simpa using hj),ZIZ hij,A6 hj]
       rw[←e1];exact AV (by simpa using hj)
      ·have Iv:d=out.getD i U:=Lm.uniq UA hd ((ih1 _).1 NZ) hd0 hi0 (hd1.trans hi1.symm);rw[Iv];exact List.mem_iff_getElem.2 ⟨i,by simpa using hi,by rw[ZHk]⟩
      ·exact absurd ⟨_,(ih1 _).1 NZ,hi0,hi1⟩ hex
    ·intro a b ha hb IF Du hab;rw[ZHr]at ha hb;have BR:∀j,j<out.length→((out.set i (Dw (out.getD i U) c.2.2.2)).getD j U).1=(out.getD j U).1∧((out.set i (Dw (out.getD i U) c.2.2.2)).getD j U).2.2.1=(out.getD j U).2.2.1:=λj hj=>by
      by_cases hij:i=j;·subst hij;rw[A6 (show i<(out.set i (Dw (out.getD i U) c.2.2.2)).length by simpa using hj),ZHk];exact⟨rfl,rfl⟩
      ·rw[A6 (show j<(out.set i (Dw (out.getD i U) c.2.2.2)).length by simpa using hj),ZIZ hij,A6 hj];exact⟨rfl,rfl⟩
     rw[(BR a ha).1]at IF;rw[(BR b hb).1]at Du;rw[(BR a ha).2,(BR b hb).2]at hab;exact ih2 a b ha hb IF Du hab
  ·have Q6:GM out c=out++[c]:=by unfold GM;exact ZGE h0
   rw[Q6];constructor;·intro x;rw[vZ h0,ZGa,ZGT,ih1]
   ·intro i j hi hj hi0 Hv hij;simp only[ZGI,ZGL,ZGS]at hi hj;have BR:∀i,i<out.length→(out++[c]).getD i U=out.getD i U:=λi hi=>by rw[A6 (by simp;omega),A6 hi,ZIp hi]
    have J7:(out++[c]).getD out.length U=c:=by rw[A6 (by simp)];simp
    by_cases h1:i<out.length<;>by_cases h2:j<out.length;·rw[BR i h1]at hi0 hij;rw[BR j h2]at Hv hij;exact ih2 i j h1 h2 hi0 Hv hij
    ·have :j=out.length:=by omega
     subst this;rw[J7]at Hv;exact absurd Hv h0
    ·have :i=out.length:=by omega
     subst this;rw[J7]at hi0;exact absurd hi0 h0
    ·omega
 have :=(key l.length (ZGR _)).1;rwa[ZGN]at this
theorem XS{α τ:Type}{V:Prop}{P:Nat→τ→Prop}(l:List α)(d:α)(f:τ→α→Option τ)(a:τ)(h0:P 0 a)(hs:∀i t,i<l.length→P i t→(f t (l.getD i d)=none→V)∧∀t',f t (l.getD i d)=some t'→P (i+1) t'):(l.foldlM f a=none→V)∧∀t,l.foldlM f a=some t→P l.length t:=by
 have key:∀k,k≤l.length→((l.take k).foldlM f a=none→V)∧∀t,(l.take k).foldlM f a=some t→P k t:=by intro k;induction k with|zero=>intro _;exact⟨λh=>(by have h':some a=none:=h;cases h'),λt h=>by(have h':some a=some t:=h);cases h';exact h0⟩|succ k ih=>
  intro hk;obtain⟨ih1,ih2⟩:=ih (by omega);rcases CN ((l.take k).foldlM f a)with h|⟨t,h⟩
  ·have :(l.take (k+1)).foldlM f a=none:=by rw[B0 d (show k<l.length by omega),ZHq,h];rfl
   rw[this];exact⟨λ_=>ih1 h,λt h=>by cases h⟩
  ·have hs':=hs k t (by omega) (ih2 t h);rw[KW (d:=d) h (by omega)];exact hs'
 have :=key l.length (ZGR _);rwa[ZGN]at this
theorem oI{C:List Int}:∀{l:List O}{k:Nat},HR C l k=none→∀d∈l,¬(d.1=0∧d.2.2.1=C)
 |[],k,_=>by simp|e::l,k,h=>by
  simp only[HR]at h;rcases CN (HR C l (k+1))with h1|⟨j,h1⟩
  ·rw[h1]at h;simp only at h;split at h;·cases h
   ·rename_i h2;intro d hd;rcases List.mem_cons.1 hd with rfl|hd;·exact h2
    ·exact oI h1 d hd
  ·rw[h1]at h;cases h
def Vz(L:List O):Prop:=∀c∈L,∀d∈L,c.1=0→d.1=0→c.2.2.1=d.2.2.1→c=d
theorem qU{n:Nat}{L:List O}(hm:∀c∈L,Mk n c)(hu:Vz L):(GV L=none→Ii (·∈L))∧∀out,GV L=some out→¬Ii (·∈L)∧∀x,x∈out↔MM (·∈L) x:=by
 let P:Nat→List O×(Int→Option Bool)→Prop:=λi st=>(∀k,k<i→k<L.length→((L.getD k U).1=0→(∀d∈L,d.1=0→d.2.2.1=A5 (L.getD k U).2.2.1→0≤(L.getD k U).2.2.2+d.2.2.2)∧(¬FM (·∈L) (L.getD k U)→L.getD k U∈st.1)∧(FM (·∈L) (L.getD k U)→F6 (L.getD k U)∈st.1))∧((L.getD k U).1≠0→L.getD k U∈st.1))∧(∀x∈st.1,MM (·∈L) x)∧(∀k:Nat,st.2 (k:Int)=some true→k<L.length∧(L.getD k U).1=0∧FM (·∈L) (L.getD k U)∧F6 (L.getD k U)∈st.1);have hinv:=XS (V:=Ii (·∈L)) (P:=P) (Jj L) (0,U) (IX L) ([],λ_=>none) ⟨λk hk=>absurd hk (by omega),by simp,λk h=>by cases h⟩ (by
  rintro i⟨out,gone⟩hi⟨hA,hB,hG⟩;rw[Mz]at hi;rw[uM hi];have Cd:=AV (d:=U) hi;have EW:∀x,MM (·∈L) x→∀g:Int→Option Bool,(∀k:Nat,g (k:Int)=some true→k<L.length∧(L.getD k U).1=0∧FM (·∈L) (L.getD k U)∧F6 (L.getD k U)∈out++[x])→(((L.getD i U).1=0→(∀d∈L,d.1=0→d.2.2.1=A5 (L.getD i U).2.2.1→0≤(L.getD i U).2.2.2+d.2.2.2)∧(¬FM (·∈L) (L.getD i U)→L.getD i U∈out++[x])∧(FM (·∈L) (L.getD i U)→F6 (L.getD i U)∈out++[x]))∧((L.getD i U).1≠0→L.getD i U∈out++[x]))→P (i+1) (out++[x],g):=by
   intro x hx g hg hi';refine⟨λk hk T7=>?_,λy hy=>?_,hg⟩
   ·by_cases PJ:k=i;·subst PJ;exact hi'
    ·obtain⟨h1,h2⟩:=hA k (by omega) T7;exact⟨λh0=>⟨(h1 h0).1,λh=>List.mem_append.2 (.inl ((h1 h0).2.1 h)),λh=>List.mem_append.2 (.inl ((h1 h0).2.2 h))⟩,λh=>List.mem_append.2 (.inl (h2 h))⟩
   ·rcases List.mem_append.1 hy with hy|hy;·exact hB y hy
    ·simp only[ZGT]at hy;subst hy;exact hx
  have hG':∀x,∀k:Nat,gone (k:Int)=some true→k<L.length∧(L.getD k U).1=0∧FM (·∈L) (L.getD k U)∧F6 (L.getD k U)∈out++[x]:=λx k h=>by obtain⟨h1,h2,h3,h4⟩:=hG k h;exact⟨h1,h2,h3,List.mem_append.2 (.inl h4)⟩
  have J7:∀x:O,x∈out++[x]:=λx=>by simp
  simp only[IX];by_cases hg:(gone (i:Int)).getD false=true
  ·rw[ZGE hg];refine⟨λh=>(by cases h),λt' ht'=>?_⟩;cases ht';have hgs:gone (i:Int)=some true:=by
    rcases CN (gone (i:Int))with h|⟨b,h⟩;·rw[h]at hg;cases hg
    ·rw[h]at hg⊢;simp only[ZIe]at hg;rw[hg]
   obtain⟨h1,h2,h3,h4⟩:=hG i hgs;refine⟨λk hk T7=>?_,hB,hG⟩;by_cases PJ:k=i;·subst PJ;refine⟨λh0=>⟨λd hd hd0 hd1=>?_,λh=>absurd h3 h,λ_=>h4⟩,λh=>absurd h2 h⟩;obtain⟨d',hd',ZBB,hd1',ZFp⟩:=h3;have :d=d':=hu d hd d' hd' hd0 ZBB (hd1.trans hd1'.symm);subst this;omega
   ·exact hA k (by omega) T7
  ·rw[ZGA hg];by_cases h0:(L.getD i U).1=0
   ·rw[ZGA λh=>h h0];have hmk:=hm _ Cd;rcases CN (HR (A5 (L.getD i U).2.2.1) L 0)with hj|⟨j,hj⟩;·rw[hj];have Bz:=oI hj;have RB:¬FM (·∈L) (L.getD i U):=λ⟨d,hd,hd0,hd1,_⟩=>Bz d hd ⟨hd0,hd1⟩;refine⟨λh=>(by cases h),λt' ht'=>?_⟩;cases ht';exact EW _ (.inl ⟨Cd,λ_=>RB⟩) _ (hG' _) ⟨λ_=>⟨λd hd hd0 hd1=>absurd ⟨hd0,hd1⟩ (Bz d hd),λ_=>J7 _,λh=>absurd h RB⟩,λh=>absurd h0 h⟩
    ·rw[hj];obtain⟨_,Ix,hj2,hj3⟩:=ZO hj;simp only[ZIs]at Ix hj2 hj3;rw[←A6 (d:=U) Ix]at hj2 hj3;have NZ:=AV (d:=U) Ix;simp only;have Y4:∀d∈L,d.1=0→d.2.2.1=A5 (L.getD i U).2.2.1→d=L.getD j U:=λd hd hd0 hd1=>hu d hd _ NZ hd0 hj2 (hd1.trans hj3.symm);by_cases h1:(L.getD i U).2.2.2+(L.getD j U).2.2.2<0;·rw[ZGE h1];exact⟨λ_=>⟨_,_,Cd,NZ,h0,hj2,hj3,h1⟩,λt' h=>by cases h⟩
     ·rw[ZGA h1];by_cases h2:(L.getD i U).2.2.2+(L.getD j U).2.2.2=0
      ·rw[ZGE h2];have RD:FM (·∈L) (L.getD i U):=⟨_,NZ,hj2,hj3,h2⟩;have ZBx:=tY (hmk.gcd h0) hj3 h2;refine⟨λh=>(by cases h),λt' ht'=>?_⟩;cases ht';refine EW (F6 (L.getD i U)) (.inr ⟨_,Cd,h0,RD,rfl⟩) _ (λk hk=>?_) ⟨λ_=>⟨λd hd hd0 hd1=>?_,λh=>absurd RD h,λ_=>J7 _⟩,λh=>absurd h0 h⟩
       ·simp only[Bu]at hk;by_cases YW:(k:Int)=(j:Int)
        ·have :k=j:=by omega
         subst this;refine⟨Ix,hj2,⟨_,Cd,h0,?_,by omega⟩,?_⟩;·rw[hj3,N3]
         ·rw[ZBx];exact J7 _
        ·rw[ZGA YW]at hk;exact hG' _ k hk
       ·rw[Y4 d hd hd0 hd1];omega
      ·rw[ZGA h2];have RB:¬FM (·∈L) (L.getD i U):=λ⟨d,hd,hd0,hd1,EI⟩=>by rw[Y4 d hd hd0 hd1]at EI;exact h2 EI
       refine⟨λh=>(by cases h),λt' ht'=>?_⟩;cases ht';refine EW _ (.inl ⟨Cd,λ_=>RB⟩) _ (hG' _) ⟨λ_=>⟨λd hd hd0 hd1=>?_,λ_=>J7 _,λh=>absurd h RB⟩,λh=>absurd h0 h⟩;rw[Y4 d hd hd0 hd1];omega
   ·rw[ZGE h0];refine⟨λh=>(by cases h),λt' ht'=>?_⟩;cases ht';exact EW _ (.inl ⟨Cd,λh=>absurd h h0⟩) _ (hG' _) ⟨λh=>absurd h h0,λ_=>J7 _⟩);have Nl:GV L=((Jj L).foldlM (IX L) ([],λ_=>none)).map (·.1):=rfl;rw[Nl];rcases CN ((Jj L).foldlM (IX L) ([],λ_=>none))with h|⟨st,h⟩;·rw[h];exact⟨λ_=>hinv.1 h,λout h=>by cases h⟩
 ·rw[h];refine⟨λh=>(by cases h),λout ho=>?_⟩;cases ho;obtain⟨hA,hB,hG⟩:=hinv.2 st h;rw[Mz]at hA;have hA':∀c∈L,(c.1=0→(∀d∈L,d.1=0→d.2.2.1=A5 c.2.2.1→0≤c.2.2.2+d.2.2.2)∧(¬FM (·∈L) c→c∈st.1)∧(FM (·∈L) c→F6 c∈st.1))∧(c.1≠0→c∈st.1):=λc hc=>by obtain⟨k,hk,rfl⟩:=Fe (d:=U) hc;exact hA k hk hk
  refine⟨?_,λx=>⟨hB x,?_⟩⟩;·rintro⟨c,d,hc,hd,h0,h1,h2,h3⟩;have :=((hA' c hc).1 h0).1 d hd h1 h2;omega
  ·rintro(⟨hx,CB⟩|⟨c,hc,h0,ho,rfl⟩)
   ·by_cases h0:x.1=0;·exact((hA' x hx).1 h0).2.1 (CB h0)
    ·exact(hA' x hx).2 h0
   ·exact((hA' c hc).1 h0).2.2 ho
theorem XE{C:List Int}{l:List O}(h:FB C l=none):∀e∈l,¬(e.1=1∧e.2.2.1=C):=by intro e he;simp only[FB,Option.map_eq_none_iff,List.find?_eq_none,List.mem_reverse,ZG0]at h;exact h e he
theorem XF{n:Nat}{e f:O}(he:Mk n e)(hf:Mk n f)(h1:e.1=1)(h2:f.1=1):f.2.2.1≠A5 e.2.2.1:=λh=>by have a:=he.1.2.2 h1;have b:=hf.1.2.2 h2;have g:=he.1.2.1 (by omega);rw[h,TU (by omega),a]at b;cases b
theorem sJ{n:Nat}{M:List O}(hm:∀c∈M,Mk n c):(Gc M=none→Hm (·∈M))∧∀out,Gc M=some out→¬Hm (·∈M)∧∀x,x∈out↔Lt (·∈M) x:=by
 have hmt:∀{i:Nat}{e:O},e∈M.take i→e∈M:=λh=>ZGl h;have h1:=XS (V:=Hm (·∈M)) (P:=λi seen=>seen=M.take i∧∀e∈M.take i,∀f∈M.take i,e.1=1→f.1=1→e.2.2.1=f.2.2.1→e.2.2.2=f.2.2.2) M U Iq [] ⟨rfl,by simp⟩ (by
  rintro i seen hi⟨rfl,hc⟩;have Cd:=AV (d:=U) hi;have Bb:=B0 U hi;have BW:∀c:O,(∀e∈M.take i,e.1=1→c.1=1→e.2.2.1=c.2.2.1→e.2.2.2=c.2.2.2)→∀e∈M.take i++[c],∀f∈M.take i++[c],e.1=1→f.1=1→e.2.2.1=f.2.2.1→e.2.2.2=f.2.2.2:=λc h e he f hf e1 f1 ef=>by
   simp only[ZGa,ZGT]at he hf;rcases he with he|rfl<;>rcases hf with hf|rfl;·exact hc e he f hf e1 f1 ef
   ·exact h e he e1 f1 ef
   ·exact(h f hf f1 e1 ef.symm).symm
   ·rfl
  rw[Bb];unfold Iq;by_cases h0:(M.getD i U).1=1
  ·rw[ZGA λh=>h h0];rcases CN (FB (M.getD i U).2.2.1 (M.take i))with hq|⟨k,hq⟩;·rw[hq];have Bz:=XE hq;refine⟨λh=>(by cases h),λt' ht'=>?_⟩;cases ht';exact⟨rfl,BW _ λe he e1 _ ee=>absurd ⟨e1,ee⟩ (Bz e he)⟩
   ·rw[hq];obtain⟨e,he,e1,e2,e3⟩:=TS hq;simp only;by_cases hk:k=(M.getD i U).2.2.2;·rw[ZGA λh=>h hk];refine⟨λh=>(by cases h),λt' ht'=>?_⟩;cases ht';refine⟨rfl,BW _ λf hf f1 _ ff=>?_⟩;rw[hc f hf e he f1 e1 (ff.trans e2.symm),e3,hk]
    ·rw[ZGE hk];exact⟨λ_=>.inl ⟨e,_,hmt he,Cd,e1,h0,e2,by rw[e3];exact hk⟩,λt' h=>by cases h⟩
  ·rw[ZGE h0];refine⟨λh=>(by cases h),λt' ht'=>?_⟩;cases ht';exact⟨rfl,BW _ λe he _ h _=>absurd h h0⟩);unfold Gc;rcases CN (M.foldlM Iq [])with he|⟨seen,he⟩;·rw[he];exact⟨λ_=>h1.1 he,λout h=>by cases h⟩
 ·rw[he];simp only;obtain⟨_,Co⟩:=h1.2 seen he;rw[ZGN]at Co;clear h1 he;have h2:=XS (V:=Hm (·∈M)) (P:=λi out=>(∀x,x∈out↔x∈M.take i∧(x.1=0→∀e∈M,e.1=1→e.2.2.1≠x.2.2.1∧e.2.2.1≠A5 x.2.2.1))∧∀c∈M.take i,c.1=0→∀e∈M,e.1=1→(e.2.2.1=c.2.2.1→e.2.2.2≤c.2.2.2)∧(e.2.2.1=A5 c.2.2.1→0≤c.2.2.2+e.2.2.2)) M U (Ky M) [] ⟨by simp,by simp⟩ (by
   rintro i out hi⟨hA,hB⟩;have Cd:=AV (d:=U) hi;have Bb:=B0 U hi;have EW:((M.getD i U).1=0→∀e∈M,e.1=1→e.2.2.1≠(M.getD i U).2.2.1∧e.2.2.1≠A5 (M.getD i U).2.2.1)→∀x,x∈out++[M.getD i U]↔x∈M.take i++[M.getD i U]∧(x.1=0→∀e∈M,e.1=1→e.2.2.1≠x.2.2.1∧e.2.2.1≠A5 x.2.2.1):=λh x=>by
    simp only[ZGa,ZGT,hA];constructor
    ·rintro(⟨h1,h2⟩|rfl);·exact⟨.inl h1,h2⟩
     ·exact⟨.inr rfl,h⟩
    ·rintro⟨h1|h1,h2⟩;·exact .inl ⟨h1,h2⟩
     ·exact .inr h1
   have lE:((M.getD i U).1=0∧∃e∈M,e.1=1∧(e.2.2.1=(M.getD i U).2.2.1∨e.2.2.1=A5 (M.getD i U).2.2.1))→∀x,x∈out↔x∈M.take i++[M.getD i U]∧(x.1=0→∀e∈M,e.1=1→e.2.2.1≠x.2.2.1∧e.2.2.1≠A5 x.2.2.1):=λ⟨h0,e,he,FV,he2⟩x=>by
    simp only[ZGa,ZGT,hA];constructor;·rintro⟨h1,h2⟩;exact⟨.inl h1,h2⟩
    ·rintro⟨h1|rfl,h2⟩;·exact⟨h1,h2⟩
     ·have :=h2 h0 e he FV;exact(he2.elim this.1 this.2).elim
   have BW:((M.getD i U).1=0→∀e∈M,e.1=1→(e.2.2.1=(M.getD i U).2.2.1→e.2.2.2≤(M.getD i U).2.2.2)∧(e.2.2.1=A5 (M.getD i U).2.2.1→0≤(M.getD i U).2.2.2+e.2.2.2))→∀c∈M.take i++[M.getD i U],c.1=0→∀e∈M,e.1=1→(e.2.2.1=c.2.2.1→e.2.2.2≤c.2.2.2)∧(e.2.2.1=A5 c.2.2.1→0≤c.2.2.2+e.2.2.2):=λh c hc=>by
    simp only[ZGa,ZGT]at hc;rcases hc with hc|rfl;·exact hB c hc
    ·exact h
   rw[Bb];unfold Ky;by_cases h0:(M.getD i U).1=0
   ·rw[ZGA λh=>h h0];rcases CN (FB (M.getD i U).2.2.1 M)with hq|⟨k,hq⟩
    ·rw[hq];have Bz:=XE hq;simp only;rcases CN (FB (A5 (M.getD i U).2.2.1) M)with Gt|⟨k,Gt⟩;·rw[Gt];have mC:=XE Gt;refine⟨λh=>(by cases h),λt' ht'=>?_⟩;cases ht';exact⟨EW λ_ e he e1=>⟨λh=>Bz e he ⟨e1,h⟩,λh=>mC e he ⟨e1,h⟩⟩,BW λ_ e he e1=>⟨λh=>absurd ⟨e1,h⟩ (Bz e he),λh=>absurd ⟨e1,h⟩ (mC e he)⟩⟩
     ·rw[Gt];obtain⟨e,he,e1,e2,e3⟩:=TS Gt;simp only;by_cases hk:(M.getD i U).2.2.2+k<0;·rw[ZGE hk];exact⟨λ_=>.inr ⟨_,e,Cd,he,h0,e1,.inr ⟨e2,by rw[e3];exact hk⟩⟩,λt' h=>by cases h⟩
      ·rw[ZGA hk];refine⟨λh=>(by cases h),λt' ht'=>?_⟩;cases ht';refine⟨lE ⟨h0,e,he,e1,.inr e2⟩,BW λ_ f hf f1=>⟨λh=>absurd ⟨f1,h⟩ (Bz f hf),λh=>?_⟩⟩;rw[Co f hf e he f1 e1 (h.trans e2.symm),e3];omega
    ·rw[hq];obtain⟨e,he,e1,e2,e3⟩:=TS hq;simp only;by_cases hk:(M.getD i U).2.2.2<k;·rw[ZGE hk];exact⟨λ_=>.inr ⟨_,e,Cd,he,h0,e1,.inl ⟨e2,by rw[e3];exact hk⟩⟩,λt' h=>by cases h⟩
     ·rw[ZGA hk];refine⟨λh=>(by cases h),λt' ht'=>?_⟩;cases ht';refine⟨lE ⟨h0,e,he,e1,.inl e2⟩,BW λ_ f hf f1=>⟨λh=>?_,λh=>?_⟩⟩;·rw[Co f hf e he f1 e1 (h.trans e2.symm),e3];omega
      ·exact absurd (e2▸h) (XF (hm e he) (hm f hf) e1 f1)
   ·rw[ZGE h0];refine⟨λh=>(by cases h),λt' ht'=>?_⟩;cases ht';exact⟨EW λh=>absurd h h0,BW λh=>absurd h h0⟩);refine⟨h2.1,λout ho=>?_⟩;obtain⟨hA,hB⟩:=h2.2 out ho;rw[ZGN]at hA hB;refine⟨?_,λx=>hA x⟩;rintro(⟨e,f,he,hf,e1,f1,ef,hk⟩|⟨c,e,hc,he,c0,e1,⟨h3,h4⟩|⟨h3,h4⟩⟩);·exact hk (Co e he f hf e1 f1 ef)
  ·have :=(hB c hc c0 e he e1).1 h3;omega
  ·have :=(hB c hc c0 e he e1).2 h3;omega
theorem rL{c:O}(h0:(Ae c).2=0)(h1:(Ae c).1.1=0):(Ae c).1.2.1=0:=by
 have hs:∀b,(Dd b).2≠0:=λb=>by cases b<;>simp[Dd]
 unfold Ae at*;split at h0
 ·rename_i hk;rw[ZGE hk];unfold Gk at*;split;·rfl
  ·rfl
 ·rename_i hk;rw[ZGA hk]at h1⊢;split at h0
  ·rename_i hk2;rw[ZGE hk2]at h1⊢;unfold CU at*;split;·rfl
   ·rfl
  ·rename_i hk2;rw[ZGA hk2]at h1⊢;unfold FS at*;split at h1;·rename_i ha;rw[ZGE ha];rfl
   ·rename_i ha;rw[ZGA ha];split at h1;·rename_i hb;rw[ZGE hb];rfl
    ·cases h1
theorem SD{p:List O}{n:Nat}(h:BN p)(hd:A3 p n):∀c∈Aq p,Mk n c:=by intro c hc;refine⟨rN h hd c hc,((VG h).2 c hc).k3,λh0=>?_⟩;simp only[Aq,ZGt,ZHx]at hc;obtain⟨r,⟨⟨d,EI,rfl⟩,hr⟩,rfl⟩:=hc;exact rL (by simpa using hr) h0
theorem ZEI{a b:List O}(h:K3 a)(hab:∀x,x∈a↔x∈b):BB a=BB b:=by have hb:K3 b:=λc hc=>h c ((hab c).2 hc);exact Vx (VQ h) (VQ hb) λc=>by rw[Mt h,Mt hb,hab]
theorem pN{n:Nat}{d c:O}(h:Mk n d):Mk n (Dw d c.2.2.2):=h
theorem Pz{p:List O}{n:Nat}(hb:BN p)(hd:A3 p n)(hv:CZ p=false):(Ii (Lm (Aq p))∨Hm (MM (Lm (Aq p)))→Af p=([],true,0))∧(¬Ii (Lm (Aq p))→¬Hm (MM (Lm (Aq p)))→∀m,(∀x,x∈m↔Lt (MM (Lm (Aq p))) x)→Af p=if((Aq p).any (λc=>!AG c)||decide (96<(BB m).length))=true then([],false,3)else(BB m,false,0)):=by
 have hl:=SD hb hd;have e:(λx=>x∈Cq (Aq p))=Lm (Aq p):=funext λx=>propext (Pa hl x);have hL:∀c∈Cq (Aq p),Mk n c:=Uk (λd c hd _=>pN hd) hl;have hu:Vz (Cq (Aq p)):=λc hc d hd h0 h1 h=>Lm.uniq hl ((Pa hl c).1 hc) ((Pa hl d).1 hd) h0 h1 h;obtain⟨Ld,Nk⟩:=qU hL hu;rw[e]at Ld Nk;have ht:=JA p;rw[hv]at ht;simp only[ZGh,ZHM]at ht;rcases CN (GV (Cq (Aq p)))with h1|⟨M,h1⟩;·rw[h1]at ht;exact⟨λ_=>ht,λh=>absurd (Ld h1) h⟩
 ·obtain⟨Ni,hM⟩:=Nk M h1;have eM:(λx=>x∈M)=MM (Lm (Aq p)):=funext λx=>propext (hM x);have Hr:∀c∈M,Mk n c:=Zy (λc h0 hc=>(KM hc h0).1) hL h1;obtain⟨DD,En⟩:=sJ Hr;rw[eM]at DD En;rw[h1,ZHc]at ht;rcases CN (Gc M)with h2|⟨out,h2⟩;·rw[h2]at ht;exact⟨λ_=>ht,λ_ h=>absurd (DD h2) h⟩
  ·obtain⟨Yi,hO⟩:=En out h2;rw[h2]at ht;refine⟨λh=>(h.elim Ni Yi).elim,λ_ _ m hm=>?_⟩;have Gp:K3 out:=λc hc=>(sI (P:=Mk n) Hr h2 c hc).2.1;have :BB out=BB m:=ZEI Gp λx=>by rw[hO,hm]
   rw[←this];exact ht
theorem dD{l:List O}{x:O}(h0:x.1≠0):Lm l x↔x∈l:=⟨λh=>h.1,λh=>⟨h,λe=>absurd e h0⟩⟩
theorem Pt{a b:O}:Cl a b=1↔a.2.2.1=b.2.2.1:=by
 unfold Cl;split;·rename_i h;exact⟨λ_=>h,λ_=>rfl⟩
 ·rename_i h;split;·exact⟨λh=>(by cases h),λe=>absurd e h⟩
  ·exact⟨λh=>(by cases h),λe=>absurd e h⟩
theorem VN{a b:O}(h:AW a.2.2.1=1):Cl a b=-1↔b.2.2.1=A5 a.2.2.1:=by
 unfold Cl;split;·rename_i h1;exact⟨λh=>(by cases h),λe=>absurd (e.symm.trans h1.symm) (qD h)⟩
 ·split;·rename_i h2;exact⟨λ_=>by rw[h2,N3],λ_=>rfl⟩
  ·rename_i h2;exact⟨λh=>(by cases h),λe=>absurd (by rw[e,N3]) h2⟩
theorem VO{a b:O}:Cl a b=0↔a.2.2.1≠b.2.2.1∧a.2.2.1≠A5 b.2.2.1:=by
 unfold Cl;split;·rename_i h1;exact⟨λh=>(by cases h),λe=>absurd h1 e.1⟩
 ·rename_i h1;split;·rename_i h2;exact⟨λh=>(by cases h),λe=>absurd h2 e.2⟩
  ·rename_i h2;exact⟨λ_=>⟨h1,h2⟩,λ_=>rfl⟩
def Ic(out:List O)(c:O):List O:=out.map λd=>if d.2.2.1=c.2.2.1 then Dw d c.2.2.2 else d
def Lq(out:List O)(c:O):Bool:=out.any λd=>decide (d.2.2.1=c.2.2.1)
def aP(out:List O)(c:O):List O:=if Lq out c=true then Ic out c else out++[c]
theorem ZDn{n:Nat}{m out:List O}{c:O}(hm:∀d∈m,Mk n d∧d.1=0)(hc:Mk n c)(h0:c.1=0)(ho:∀x,x∈out↔Lm m x)(x:O):x∈aP out c↔Lm (m++[c]) x:=by
 rw[Vu (λd hd=>(hm d hd).1) hc h0];have hg:∀d∈out,d.1=0:=λd hd=>(hm d ((ho d).1 hd).1).2;unfold aP;by_cases hh:Lq out c=true
 ·rw[ZGE hh];obtain⟨e,he,FV⟩:=List.any_eq_true.1 hh;simp only[ZG0]at FV;simp only[Ic,ZGt];constructor
  ·rintro⟨d,hd,rfl⟩;by_cases h1:d.2.2.1=c.2.2.1;·rw[ZGE h1];exact .inr ⟨hg d hd,h1,.inl ⟨d,(ho d).1 hd,hg d hd,h1,rfl⟩⟩
   ·rw[ZGA h1];exact .inl ⟨(ho d).1 hd,λh=>h1 h.2⟩
  ·rintro(⟨hx,DZ⟩|⟨UV,DZ,⟨d,hd,hd0,hd1,rfl⟩|⟨hex,rfl⟩⟩);·refine⟨x,(ho x).2 hx,ZGA λh=>DZ ⟨hg x ((ho x).2 hx),h⟩⟩
   ·exact⟨d,(ho d).2 hd,ZGE hd1⟩
   ·exact absurd ⟨e,(ho e).1 he,hg e he,FV⟩ hex
 ·rw[ZGA hh];have Bz:∀d∈out,d.2.2.1≠c.2.2.1:=λd hd h=>hh (List.any_eq_true.2 ⟨d,hd,ZGB h⟩);simp only[ZGa,ZGT];constructor
  ·rintro(hx|rfl);·exact .inl ⟨(ho x).1 hx,λh=>Bz x hx h.2⟩
   ·exact .inr ⟨h0,rfl,.inr ⟨λ⟨d,hd,hd0,hd1⟩=>Bz d ((ho d).2 hd) hd1,rfl⟩⟩
  ·rintro(⟨hx,DZ⟩|⟨UV,DZ,⟨d,hd,hd0,hd1,rfl⟩|⟨hex,rfl⟩⟩);·exact .inl ((ho x).2 hx)
   ·exact absurd hd1 (Bz d ((ho d).2 hd))
   ·exact .inr rfl
def GW(N i j a b:Nat):Prop:=a<b∧b<N∧(a<i∨a=i∧b<j)
theorem OB{N i j a b:Nat}(h:i<j)(hj:j<N):GW N i (j+1) a b↔GW N i j a b∨a=i∧b=j:=by unfold GW;omega
theorem aA{N i a b:Nat}:GW N i N a b↔GW N (i+1) (i+2) a b:=by unfold GW;omega
theorem Z9{N a b:Nat}:¬GW N 0 1 a b:=by unfold GW;omega
theorem ZDJ{N i a b:Nat}(h:N≤i):GW N i (i+1) a b↔a<b∧b<N:=by unfold GW;omega
def Ml(G:List O)(a b:Nat):Prop:=Cl (G.getD a U) (G.getD b U)=-1∧(G.getD a U).2.2.2+(G.getD b U).2.2.2=0
structure G6(G eq:List O)(i j:Nat)(eqs:List O)(gone:List Bool):Prop where
 nn:∀a b,GW G.length i j a b→Cl (G.getD a U) (G.getD b U)=-1→0≤(G.getD a U).2.2.2+(G.getD b U).2.2.2
 ee:∀x,x∈eqs↔x∈eq∨∃a b,GW G.length i j a b∧Ml G a b∧x=F6 (G.getD a U)
 gl:gone.length=G.length
 gg:∀k,k<G.length→(gone.getD k false=true↔∃a b,GW G.length i j a b∧Ml G a b∧(k=a∨k=b))
theorem G6.nil(G eq:List O):G6 G eq 0 1 eq (List.replicate G.length false):=⟨λa b h=>absurd h Z9,λx=>⟨.inl,λh=>h.elim id λ⟨a,b,h,_⟩=>absurd h Z9⟩,by simp,λk hk=>by rw[A6 (by simpa using hk)];simp only[List.getElem_replicate,ZGh,false_iff];rintro⟨a,b,h,_⟩;exact Z9 h⟩
theorem G6.row{G eq:List O}{i:Nat}{eqs:List O}{gone:List Bool}(h:G6 G eq i G.length eqs gone):G6 G eq (i+1) (i+2) eqs gone:=⟨λa b h1=>h.nn a b (aA.2 h1),λx=>(h.ee x).trans (by simp only[aA]),h.gl,λk hk=>(h.gg k hk).trans (by simp only[aA])⟩
theorem G6.skip{G eq:List O}{i j:Nat}{eqs:List O}{gone:List Bool}(h:G6 G eq i j eqs gone)(hij:i<j)(hj:j<G.length)(hs:Cl (G.getD i U) (G.getD j U)=-1→0<(G.getD i U).2.2.2+(G.getD j U).2.2.2):G6 G eq i (j+1) eqs gone:=by
 have Bz:¬Ml G i j:=λ⟨h1,h2⟩=>by have :=hs h1;omega
 have hex:∀P:Nat→Nat→Prop,(∃a b,GW G.length i (j+1) a b∧Ml G a b∧P a b)↔∃a b,GW G.length i j a b∧Ml G a b∧P a b:=λP=>by
  constructor
  ·rintro⟨a,b,h1,h2,h3⟩;rcases(OB hij hj).1 h1 with h1|⟨rfl,rfl⟩;·exact⟨a,b,h1,h2,h3⟩
   ·exact absurd h2 Bz
  ·rintro⟨a,b,h1,h2,h3⟩;exact⟨a,b,(OB hij hj).2 (.inl h1),h2,h3⟩
 refine⟨λa b h1 h2=>?_,λx=>(h.ee x).trans (ZJv ZJC (hex _).symm),h.gl,λk hk=>(h.gg k hk).trans (hex _).symm⟩;rcases(OB hij hj).1 h1 with h1|⟨rfl,rfl⟩;·exact h.nn a b h1 h2
 ·have :=hs h2;omega
theorem G6.put{G eq:List O}{i j:Nat}{eqs:List O}{gone:List Bool}(h:G6 G eq i j eqs gone)(hij:i<j)(hj:j<G.length)(hs:Ml G i j):G6 G eq i (j+1) (eqs++[F6 (G.getD i U)]) ((gone.set i true).set j true):=by
 have hex:∀P:Nat→Nat→Prop,(∃a b,GW G.length i (j+1) a b∧Ml G a b∧P a b)↔(∃a b,GW G.length i j a b∧Ml G a b∧P a b)∨P i j:=λP=>by
  constructor
  ·rintro⟨a,b,h1,h2,h3⟩;rcases(OB hij hj).1 h1 with h1|⟨rfl,rfl⟩;·exact .inl ⟨a,b,h1,h2,h3⟩
   ·exact .inr h3
  ·rintro(⟨a,b,h1,h2,h3⟩|h3);·exact⟨a,b,(OB hij hj).2 (.inl h1),h2,h3⟩
   ·exact⟨i,j,(OB hij hj).2 (.inr ⟨rfl,rfl⟩),hs,h3⟩
 refine⟨λa b h1 h2=>?_,λx=>?_,by simpa using h.gl,λk hk=>?_⟩
 ·rcases(OB hij hj).1 h1 with h1|⟨rfl,rfl⟩;·exact h.nn a b h1 h2
  ·have :=hs.2;omega
 ·rw[hex,ZGa,ZGT,h.ee,ZKm]
 ·rw[hex,←h.gg k hk];have Hu:=h.gl;rw[A6 (by simp;omega)];by_cases h1:j=k;·subst h1;rw[ZHk];exact⟨λ_=>.inr (.inr rfl),λ_=>rfl⟩
  ·rw[ZIZ h1];by_cases h2:i=k;·subst h2;rw[ZHk];exact⟨λ_=>.inr (.inl rfl),λ_=>rfl⟩
   ·rw[ZIZ h2,A6 (show k<gone.length by omega)];exact⟨.inl,λh=>h.elim id λh=>by omega⟩
structure dF(L:O→Prop)(G eqs:List O)(gone:List Bool):Prop where
 nv:¬Ii L
 ee:∀x,x∈eqs↔MM L x∧x.1=1
 gl:gone.length=G.length
 gg:∀k,k<G.length→(gone.getD k false=true↔FM L (G.getD k U))
theorem G6.done{n:Nat}{l G eq:List O}{eqs:List O}{gone:List Bool}(hl:∀c∈l,Mk n c)(hG:∀x,x∈G↔Lm l x∧x.1=0)(hq:∀x,x∈eq↔x∈l∧x.1=1)(h:G6 G eq G.length (G.length+1) eqs gone):dF (Lm l) G eqs gone:=by
 have hmk:∀a,a<G.length→Mk n (G.getD a U)∧(G.getD a U).1=0∧Lm l (G.getD a U):=λa ha=>by have :=(hG _).1 (AV (d:=U) ha);exact⟨hl _ this.1.1,this.2,this.1⟩
 have KD:∀a b,a<G.length→b<G.length→(Cl (G.getD a U) (G.getD b U)=-1↔(G.getD b U).2.2.1=A5 (G.getD a U).2.2.1):=λa b ha hb=>VN ((hmk a ha).1.gcd (hmk a ha).2.1);have UQ:∀a b,a<G.length→b<G.length→(G.getD b U).2.2.1=A5 (G.getD a U).2.2.1→(G.getD a U).2.2.1=A5 (G.getD b U).2.2.1:=λa b ha hb h=>by rw[h,N3]
 have hne:∀a b,a<G.length→b<G.length→(G.getD b U).2.2.1=A5 (G.getD a U).2.2.1→a≠b:=λa b ha hb h e=>by subst e;exact qD ((hmk a ha).1.gcd (hmk a ha).2.1) h.symm
 have Em:∀a b,GW G.length G.length (G.length+1) a b↔a<b∧b<G.length:=λa b=>ZDJ (ZGR _);have Xq:∀k,k<G.length→(FM (Lm l) (G.getD k U)↔∃b,b<G.length∧(G.getD b U).2.2.1=A5 (G.getD k U).2.2.1∧(G.getD k U).2.2.2+(G.getD b U).2.2.2=0):=λk hk=>by
  constructor;·rintro⟨d,hd,hd0,hd1,EI⟩;obtain⟨b,hb,rfl⟩:=Fe (d:=U) ((hG d).2 ⟨hd,hd0⟩);exact⟨b,hb,hd1,EI⟩
  ·rintro⟨b,hb,h1,h2⟩;exact⟨_,(hmk b hb).2.2,(hmk b hb).2.1,h1,h2⟩
 refine⟨?_,λx=>?_,h.gl,λk hk=>?_⟩
 ·rintro⟨c,d,hc,hd,c0,d0,Xx,Ab⟩;obtain⟨a,ha,rfl⟩:=Fe (d:=U) ((hG c).2 ⟨hc,c0⟩);obtain⟨b,hb,rfl⟩:=Fe (d:=U) ((hG d).2 ⟨hd,d0⟩);rcases ZJQ (hne a b ha hb Xx)with hab|hab;·have :=h.nn a b ((Em a b).2 ⟨hab,hb⟩) ((KD a b ha hb).2 Xx);omega
  ·have :=h.nn b a ((Em b a).2 ⟨hab,ha⟩) ((KD b a hb ha).2 (UQ a b ha hb Xx));omega
 ·rw[h.ee,hq];constructor
  ·rintro(⟨h1,h2⟩|⟨a,b,h1,⟨h2,h3⟩,rfl⟩);·exact⟨.inl ⟨(dD (by omega)).2 h1,λh=>by omega⟩,h2⟩
   ·have ha:a<G.length:=by have :=(Em a b).1 h1;omega
    have hb:b<G.length:=by have :=(Em a b).1 h1;omega
    exact⟨.inr ⟨_,(hmk a ha).2.2,(hmk a ha).2.1,(Xq a ha).2 ⟨b,hb,(KD a b ha hb).1 h2,h3⟩,rfl⟩,(KM (hmk a ha).1 (hmk a ha).2.1).2⟩
  ·rintro⟨⟨h1,h2⟩|⟨c,hc,c0,ho,rfl⟩,hx1⟩;·exact .inl ⟨h1.1,hx1⟩
   ·obtain⟨k,hk,rfl⟩:=Fe (d:=U) ((hG c).2 ⟨hc,c0⟩);obtain⟨b,hb,h3,h4⟩:=(Xq k hk).1 ho;right;rcases ZJQ (hne k b hk hb h3)with MO|MO;·exact⟨k,b,(Em k b).2 ⟨MO,hb⟩,⟨(KD k b hk hb).2 h3,h4⟩,rfl⟩
    ·exact⟨b,k,(Em b k).2 ⟨MO,hk⟩,⟨(KD b k hb hk).2 (UQ k b hk hb h3),by omega⟩,(tY ((hmk k hk).1.gcd c0) h3 h4).symm⟩
 ·rw[h.gg k hk,Xq k hk];constructor
  ·rintro⟨a,b,h1,⟨h2,h3⟩,h4⟩;have ha:a<G.length:=by have :=(Em a b).1 h1;omega
   have hb:b<G.length:=by have :=(Em a b).1 h1;omega
   have h5:=(KD a b ha hb).1 h2;rcases h4 with rfl|rfl;·exact⟨b,hb,h5,h3⟩
   ·exact⟨a,ha,UQ a k ha hb h5,by omega⟩
  ·rintro⟨b,hb,h3,h4⟩;rcases ZJQ (hne k b hk hb h3)with MO|MO;·exact⟨k,b,(Em k b).2 ⟨MO,hb⟩,⟨(KD k b hk hb).2 h3,h4⟩,.inl rfl⟩
   ·exact⟨b,k,(Em b k).2 ⟨MO,hk⟩,⟨(KD b k hb hk).2 (UQ k b hk hb h3),by omega⟩,.inr rfl⟩
structure KO(G E:List O)(gone0:List Bool)(i:Nat)(gone:List Bool):Prop where
 cc:∀a b,a<i→b<i→(E.getD a U).2.2.1=(E.getD b U).2.2.1→(E.getD a U).2.2.2=(E.getD b U).2.2.2
 nn:∀k,k<G.length→gone0.getD k false=false→∀a,a<i→((E.getD a U).2.2.1=(G.getD k U).2.2.1→(E.getD a U).2.2.2≤(G.getD k U).2.2.2)∧((E.getD a U).2.2.1=A5 (G.getD k U).2.2.1→0≤(G.getD k U).2.2.2+(E.getD a U).2.2.2)
 gl:gone.length=G.length
 gg:∀k,k<G.length→(gone.getD k false=true↔gone0.getD k false=true∨∃a,a<i∧Cl (E.getD a U) (G.getD k U)≠0)
theorem KO.nil{G E:List O}{gone0:List Bool}(h:gone0.length=G.length):KO G E gone0 0 gone0:=⟨λa b h=>absurd h (by omega),λk _ _ a h=>absurd h (by omega),h,λk hk=>⟨.inl,λh=>h.elim id λ⟨a,h,_⟩=>absurd h (by omega)⟩⟩
structure JD(G E:List O)(gone0:List Bool)(i j:Nat)(gone1 gone:List Bool):Prop where
 nn:∀k,k<j→gone0.getD k false=false→((E.getD i U).2.2.1=(G.getD k U).2.2.1→(E.getD i U).2.2.2≤(G.getD k U).2.2.2)∧((E.getD i U).2.2.1=A5 (G.getD k U).2.2.1→0≤(G.getD k U).2.2.2+(E.getD i U).2.2.2)
 gl:gone.length=G.length
 gg:∀k,k<G.length→(gone.getD k false=true↔gone1.getD k false=true∨k<j∧Cl (E.getD i U) (G.getD k U)≠0)
theorem KO.row{G E:List O}{gone0:List Bool}{i:Nat}{gone1 gone:List Bool}(h:KO G E gone0 i gone1)(hc:∀a,a<i→(E.getD i U).2.2.1=(E.getD a U).2.2.1→(E.getD i U).2.2.2=(E.getD a U).2.2.2)(hr:JD G E gone0 i G.length gone1 gone):KO G E gone0 (i+1) gone:=by
 refine⟨λa b ha hb hab=>?_,λk hk h0 a ha=>?_,hr.gl,λk hk=>?_⟩
 ·rcases ZHj a i with h1|h1<;>rcases ZHj b i with h2|h2;·exact h.cc a b h1 h2 hab
  ·have :b=i:=by omega
   subst this;exact(hc a h1 hab.symm).symm
  ·have :a=i:=by omega
   subst this;exact hc b h2 hab
  ·have :a=b:=by omega
   rw[this]
 ·rcases ZHj a i with h1|h1;·exact h.nn k hk h0 a h1
  ·have :a=i:=by omega
   subst this;exact hr.nn k hk h0
 ·rw[hr.gg k hk,h.gg k hk,ZKm];refine ZJv ZJC ⟨?_,?_⟩
  ·rintro(⟨a,ha,h1⟩|⟨_,h1⟩);·exact⟨a,by omega,h1⟩
   ·exact⟨i,by omega,h1⟩
  ·rintro⟨a,ha,h1⟩;rcases ZHj a i with h2|h2;·exact .inl ⟨a,h2,h1⟩
   ·have :a=i:=by omega
    subst this;exact .inr ⟨hk,h1⟩
theorem JD.nil{G E:List O}{gone0 gone1:List Bool}{i:Nat}(h:gone1.length=G.length):JD G E gone0 i 0 gone1 gone1:=⟨λk h=>absurd h (by omega),h,λk hk=>⟨.inl,λh=>h.elim id λ⟨h,_⟩=>absurd h (by omega)⟩⟩
theorem JD.skip{n:Nat}{G E:List O}{gone0 gone1 gone:List Bool}{i j:Nat}(hE:∀a,a≤i→Mk n (E.getD a U)∧(E.getD a U).1=1)(hI:KO G E gone0 i gone1)(hc:∀a,a<i→(E.getD i U).2.2.1=(E.getD a U).2.2.1→(E.getD i U).2.2.2=(E.getD a U).2.2.2)(h:JD G E gone0 i j gone1 gone)(hj:j<G.length)(hs:gone.getD j false=true∨Cl (E.getD i U) (G.getD j U)=0):JD G E gone0 i (j+1) gone1 gone:=by
 have Cj:∀{u v:List Int},u=A5 v→v=A5 u:=λ{u v}h=>by rw[h,N3]
 refine⟨λk hk h0=>?_,h.gl,λk hk=>?_⟩
 ·rcases ZHj k j with h1|h1;·exact h.nn k h1 h0
  ·have :k=j:=by omega
   subst this;rcases hs with hs|hs
   ·rcases(h.gg k hj).1 hs with h2|h2
    ·rcases(hI.gg k hj).1 h2 with h3|⟨a,ha,h3⟩;·rw[h0]at h3;cases h3
     ·have hn:=hI.nn k hj h0 a ha;obtain⟨ma,a1⟩:=hE a (by omega);obtain⟨mi,i1⟩:=hE i (ZGR _);have h4:(E.getD a U).2.2.1=(G.getD k U).2.2.1∨(E.getD a U).2.2.1=A5 (G.getD k U).2.2.1:=by
       rcases ZJe ((E.getD a U).2.2.1=(G.getD k U).2.2.1)with h5|h5;·exact .inl h5
       ·rcases ZJe ((E.getD a U).2.2.1=A5 (G.getD k U).2.2.1)with h6|h6;·exact .inr h6
        ·exact absurd (VO.2 ⟨h5,h6⟩) h3
      constructor
      ·intro h5;rcases h4 with h4|h4;·rw[hc a ha (h5.trans h4.symm)];exact hn.1 h4
       ·exact absurd (h5▸h4) (XF mi ma i1 a1)
      ·intro h5;rcases h4 with h4|h4;·exact absurd (h4▸h5) (XF ma mi a1 i1)
       ·rw[hc a ha (h5.trans h4.symm)];exact hn.2 h4
    ·omega
   ·have :=VO.1 hs;exact⟨λh=>absurd h this.1,λh=>absurd h this.2⟩
 ·rw[h.gg k hk];constructor
  ·rintro(h1|⟨h1,h2⟩);·exact .inl h1
   ·exact .inr ⟨by omega,h2⟩
  ·rintro(h1|⟨h1,h2⟩);·exact .inl h1
   ·rcases ZHj k j with h3|h3;·exact .inr ⟨h3,h2⟩
    ·have :k=j:=by omega
     subst this;rcases hs with hs|hs;·exact(h.gg k hk).1 hs
     ·exact absurd hs h2
theorem JD.put{G E:List O}{gone0 gone1 gone:List Bool}{i j:Nat}(h:JD G E gone0 i j gone1 gone)(hj:j<G.length)(hs:Cl (E.getD i U) (G.getD j U)≠0)(hn:0≤(G.getD j U).2.2.2-Cl (E.getD i U) (G.getD j U)*(E.getD i U).2.2.2)(hg:AW (E.getD i U).2.2.1=1):JD G E gone0 i (j+1) gone1 (gone.set j true):=by
 have Hu:=h.gl;refine⟨λk hk h0=>?_,by simpa using Hu,λk hk=>?_⟩
 ·rcases ZHj k j with h1|h1;·exact h.nn k h1 h0
  ·have :k=j:=by omega
   subst this;constructor;·intro h5;rw[Pt.2 h5]at hn;omega
   ·intro h5;rw[(VN hg).2 (by rw[h5,N3])]at hn;omega
 ·rw[A6 (by simp;omega)];by_cases h1:j=k;·subst h1;rw[ZHk];exact⟨λ_=>.inr ⟨by omega,hs⟩,λ_=>rfl⟩
  ·rw[ZIZ h1,←A6 (d:=false) (show k<gone.length by omega),h.gg k hk];exact ZJv ZJC ⟨λh=>⟨by omega,h.2⟩,λh=>⟨by omega,h.2⟩⟩
theorem KO.done{n:Nat}{l G E:List O}{gone0 gone:List Bool}(hl:∀c∈l,Mk n c)(hG:∀x,x∈G↔Lm l x∧x.1=0)(hp:dF (Lm l) G E gone0)(h:KO G E gone0 E.length gone){m:List O}(hm:∀x,x∈m↔x∈E∨(∃k,k<G.length∧gone.getD k false=false∧x=G.getD k U)∨x∈l∧x.1=2):¬Hm (MM (Lm l))∧∀x,x∈m↔Lt (MM (Lm l)) x:=by
 have Hr:∀c,MM (Lm l) c→c.1=0→c∈G∧¬FM (Lm l) c:=λc hc c0=>by
  rcases hc with⟨h1,h2⟩|⟨d,hd,d0,_,rfl⟩;·exact⟨(hG c).2 ⟨h1,c0⟩,h2 c0⟩
  ·have :=(KM (hl d hd.1) d0).2;omega
 have T1:∀c,MM (Lm l) c→c.1=0→∃k,k<G.length∧c=G.getD k U∧gone0.getD k false=false:=λc hc c0=>by obtain⟨h1,h2⟩:=Hr c hc c0;obtain⟨k,hk,rfl⟩:=Fe (d:=U) h1;refine⟨k,hk,rfl,?_⟩;cases hb:gone0.getD k false with|false=>rfl|true=>exact absurd ((hp.gg k hk).1 hb) h2
 have KZ:∀e,MM (Lm l) e→e.1=1→∃a,a<E.length∧e=E.getD a U:=λe he e1=>by obtain⟨a,ha,h⟩:=Fe (d:=U) ((hp.ee e).2 ⟨he,e1⟩);exact⟨a,ha,h.symm⟩
 refine⟨?_,λx=>?_⟩
 ·rintro(⟨e,f,he,hf,e1,f1,ef,hk⟩|⟨c,e,hc,he,c0,e1,Yn⟩);·obtain⟨a,ha,rfl⟩:=KZ e he e1;obtain⟨b,hb,rfl⟩:=KZ f hf f1;exact hk (h.cc a b ha hb ef)
  ·obtain⟨a,ha,rfl⟩:=KZ e he e1;obtain⟨k,hk,rfl,IK⟩:=T1 c hc c0;have :=h.nn k hk IK a ha;rcases Yn with⟨h1,h2⟩|⟨h1,h2⟩;·have :=this.1 h1;omega
   ·have :=this.2 h1;omega
 ·rw[hm];constructor
  ·rintro(hx|⟨k,hk,hg,rfl⟩|⟨hx,x2⟩);·obtain⟨h1,h2⟩:=(hp.ee x).1 hx;exact⟨h1,λh=>by omega⟩
   ·have h0:¬(gone0.getD k false=true∨∃a,a<E.length∧Cl (E.getD a U) (G.getD k U)≠0):=λh1=>by rw[(h.gg k hk).2 h1]at hg;cases hg
    rw[ZGx]at h0;have PG:=(hG _).1 (AV (d:=U) hk);refine⟨.inl ⟨PG.1,λ_ ho=>h0.1 ((hp.gg k hk).2 ho)⟩,λ_ e he e1=>?_⟩;obtain⟨a,ha,rfl⟩:=KZ e he e1;have :Cl (E.getD a U) (G.getD k U)=0:=by
     rcases ZJe (Cl (E.getD a U) (G.getD k U)=0)with h1|h1;·exact h1
     ·exact absurd ⟨a,ha,h1⟩ h0.2
    exact VO.1 this
   ·exact⟨.inl ⟨(dD (by omega)).2 hx,λh=>by omega⟩,λh=>by omega⟩
  ·rintro⟨hx,CB⟩;have Gp:IT x.1:=by
    rcases hx with⟨h1,_⟩|⟨d,hd,d0,_,rfl⟩;·exact(hl x h1.1).2.1
    ·exact .inr (.inl (KM (hl d hd.1) d0).2)
   rcases Gp with x0|x1|x2;·obtain⟨k,hk,rfl,IK⟩:=T1 x hx x0;refine .inr (.inl ⟨k,hk,?_,rfl⟩);cases hb:gone.getD k false with|false=>rfl|true=>
    rcases(h.gg k hk).1 hb with h1|⟨a,ha,h1⟩;·rw[IK]at h1;cases h1
    ·obtain⟨h2,h3⟩:=(hp.ee _).1 (AV (d:=U) ha);exact absurd (VO.2 (CB x0 _ h2 h3)) h1
   ·exact .inl ((hp.ee x).2 ⟨hx,x1⟩)
   ·rcases hx with⟨h1,_⟩|⟨d,hd,d0,_,rfl⟩;·exact .inr (.inr ⟨h1.1,x2⟩)
    ·have :=(KM (hl d hd.1) d0).2;omega
def HX(st:Bool×List O×List O×List O)(r:O):Bool×List O×List O×List O:=(st.1||!AG r,if r.1=0 then(st.2.1++[r],st.2.2.1,st.2.2.2)else if r.1=1 then(st.2.1,st.2.2.1++[r],st.2.2.2)else(st.2.1,st.2.2.1,st.2.2.2++[r]))
def Rp(st:Bool×List O×List O×List O)(c:O):Option (Bool×List O×List O×List O):=if(Ae c).2<0 then none else if(Ae c).2=0 then some (HX st (Ae c).1)else some st
theorem U8:∀(p:List O)(st:Bool×List O×List O×List O),p.foldlM Rp st=if CZ p then none else some ((Aq p).foldl HX st)
 |[],st=>by simp[CZ,Aq]|c::p,st=>by
  rw[ZGc];simp only[Rp,CZ,Aq,ZGi,ZJ3];by_cases h:(Ae c).2<0;·simp[h]
  ·have ih:∀st,p.foldlM Rp st=if CZ p then none else some ((Aq p).foldl HX st):=U8 p;unfold CZ Aq at ih;by_cases h2:(Ae c).2=0;·simp only[ZGA h,ZGE h2,ZGv,ZHc,ih,ZGF h,ZHh];simp[h2]
   ·simp only[ZGA h,ZGA h2,ZGv,ZHc,ih,ZGF h,ZHh];simp[h2]
structure Sl(l:List O)(st:Bool×List O×List O×List O):Prop where
 bad:st.1=l.any λc=>!AG c
 ge:∀x,x∈st.2.1↔x∈l∧x.1=0
 eq:∀x,x∈st.2.2.1↔x∈l∧x.1=1
 div:∀x,x∈st.2.2.2↔x∈l∧x.1≠0∧x.1≠1
 len:st.2.1.length+st.2.2.1.length+st.2.2.2.length=l.length
theorem ZDC{l:List O}{st:Bool×List O×List O×List O}{r:O}(h:Sl l st):Sl (l++[r]) (HX st r):=by
 have hb:(HX st r).1=(l++[r]).any λc=>!AG c:=by simp only[HX,h.bad,List.any_append,ZJ3,List.any_nil,ZIW]
 have hg:=h.ge;have hq:=h.eq;have hd:=h.div;have hl:=h.len;unfold HX at hb⊢;by_cases h0:r.1=0
 ·rw[ZGE h0]at hb⊢;refine⟨hb,λx=>?_,λx=>?_,λx=>?_,by simp only[ZGI,ZGL,ZGS];omega⟩
  ·simp only[ZGa,ZGT,hg];constructor
   ·rintro(h|rfl);·exact⟨.inl h.1,h.2⟩
    ·exact⟨.inr rfl,h0⟩
   ·rintro⟨h1|h1,h2⟩;·exact .inl ⟨h1,h2⟩
    ·exact .inr h1
  ·simp only[ZGa,ZGT,hq];constructor;·intro h;exact⟨.inl h.1,h.2⟩
   ·rintro⟨h1|rfl,h2⟩;·exact⟨h1,h2⟩
    ·omega
  ·simp only[ZGa,ZGT,hd];constructor;·intro h;exact⟨.inl h.1,h.2⟩
   ·rintro⟨h1|rfl,h2⟩;·exact⟨h1,h2⟩
    ·exact absurd h0 h2.1
 ·rw[ZGA h0]at hb⊢;by_cases h1:r.1=1
  ·rw[ZGE h1]at hb⊢;refine⟨hb,λx=>?_,λx=>?_,λx=>?_,by simp only[ZGI,ZGL,ZGS];omega⟩
   ·simp only[ZGa,ZGT,hg];constructor;·intro h;exact⟨.inl h.1,h.2⟩
    ·rintro⟨h1|rfl,h2⟩;·exact⟨h1,h2⟩
     ·exact absurd h2 h0
   ·simp only[ZGa,ZGT,hq];constructor
    ·rintro(h|rfl);·exact⟨.inl h.1,h.2⟩
     ·exact⟨.inr rfl,h1⟩
    ·rintro⟨h3|h3,h2⟩;·exact .inl ⟨h3,h2⟩
     ·exact .inr h3
   ·simp only[ZGa,ZGT,hd];constructor;·intro h;exact⟨.inl h.1,h.2⟩
    ·rintro⟨h3|rfl,h2⟩;·exact⟨h3,h2⟩
     ·exact absurd h1 h2.2
  ·rw[ZGA h1]at hb⊢;refine⟨hb,λx=>?_,λx=>?_,λx=>?_,by simp only[ZGI,ZGL,ZGS];omega⟩
   ·simp only[ZGa,ZGT,hg];constructor;·intro h;exact⟨.inl h.1,h.2⟩
    ·rintro⟨h1|rfl,h2⟩;·exact⟨h1,h2⟩
     ·exact absurd h2 h0
   ·simp only[ZGa,ZGT,hq];constructor;·intro h;exact⟨.inl h.1,h.2⟩
    ·rintro⟨h3|rfl,h2⟩;·exact⟨h3,h2⟩
     ·exact absurd h2 h1
   ·simp only[ZGa,ZGT,hd];constructor
    ·rintro(h|rfl);·exact⟨.inl h.1,h.2⟩
     ·exact⟨.inr rfl,h0,h1⟩
    ·rintro⟨h3|h3,h2⟩;·exact .inl ⟨h3,h2⟩
     ·exact .inr h3
theorem qW(l:List O):Sl l (l.foldl HX (false,[],[],[])):=by
 have key:∀k,k≤l.length→Sl (l.take k) ((l.take k).foldl HX (false,[],[],[])):=by intro k;induction k with|zero=>intro _;exact⟨rfl,by simp,by simp,by simp,rfl⟩|succ k ih=>intro hk;rw[B0 U (show k<l.length by omega),ZHC];exact ZDC (ih (by omega))
 have :=key l.length (ZGR _);rwa[ZGN]at this
theorem ZD8(a b:O):Cl a b=1∨Cl a b=-1∨Cl a b=0:=by
 unfold Cl;split;·exact .inl rfl
 ·split;·exact .inr (.inl rfl)
  ·exact .inr (.inr rfl)
theorem ZDp(out:List O)(d c:O):Ic (out++[d]) c=Ic out c++[if d.2.2.1=c.2.2.1 then Dw d c.2.2.2 else d]:=by simp[Ic]
theorem ZDm(out:List O)(d c:O):Lq (out++[d]) c=(Lq out c||decide (d.2.2.1=c.2.2.1)):=by simp[Lq]
theorem ZDo{out:List O}{c:O}(h:Lq out c=false):Ic out c=out:=by
 unfold Ic;conv=>rhs;rw[←ZJK out]
 refine ZHA λd hd=>?_;have :=List.any_eq_false.1 h d hd;simp only[ZG0]at this;exact ZGA this
theorem rS(out:List O)(c:O):(Ic out c).length=out.length:=by simp[Ic]
theorem ZAv{α:Type}{u out:List α}{d:α}{j:Nat}(h:u.length=j):(u++out.drop j).getD j d=out.getD j d:=by rw[ZGG,ZG5 (by omega),h,ZIr,ZHy,ZHw,←ZGG]
theorem ZCV{α:Type}{u out:List α}{j:Nat}(h:u.length=j)(hj:j≤out.length):(u++out.drop j).length=out.length:=by rw[ZGI,ZG1,h];omega
theorem Dm.spec(p:List O)(hp:Dm.pre (p,())):Dm.wp p λr=>r=Dm.fn (p,()):=by
 obtain⟨PO,Tv⟩:Rs p:=hp;obtain⟨n,hn,hd⟩:∃n,n≤1048576∧A3 p n:=by cases p with|nil=>exact⟨0,by omega,by intro c hc;simp at hc⟩|cons c p=>obtain⟨n,hd⟩:=Tv;exact⟨n,by have h1:=hd c (by simp);have h2:=(PO.2 c (by simp)).2.1;omega,hd⟩
 have hl:=PO.1;have hQ:Dm.fn (p,())=Af p:=rfl;simp only[Dm.wp,hQ,Bi.fn,EY.fn,Dn.fn,Fm.fn];refine Lp.foldO p U Rp (false,[],[],[]) (by omega) ?_ ?_
 ·rintro i⟨bad,A,B,D⟩R e e2 hf ht BC BJ;have hb:=PO.2 _ (AV (d:=U) e);have hlen:A.length+B.length+D.length≤i:=by
   rw[U8]at ht;split at ht;·cases ht
   ·have :=(qW (Aq (p.take i))).len;rw[ZH7 ht]at this;simp only at this;have h3:=ZGf (λr:O×Int=>decide (r.2=0)) ((p.take i).map Ae);have h4:(Aq (p.take i)).length≤(p.take i).length:=by simp only[Aq,ZGM]at*;omega
    rw[ZGP]at h4;omega
  simp only[ZGB e2,ZGD,ZGC];refine⟨⟨by omega,by omega⟩,hb,?_⟩;have BO:=rM (p.getD i U);have Yr:Rp (bad,A,B,D) (p.getD i U)=if(Ae (p.getD i U)).2<0 then none else if(Ae (p.getD i U)).2=0 then some (HX (bad,A,B,D) (Ae (p.getD i U)).1)else some (bad,A,B,D):=rfl;rw[Yr]at BC BJ;generalize hr:Ae (p.getD i U)=r at*;obtain⟨r,s⟩:=r;simp only at BO BC BJ;rcases BO with rfl|rfl|rfl
  ·simp only[show((0:Int)==-1)=false from rfl,show((0:Int)==1)=false from rfl,ZF9];rw[ZGA (by omega),ZGE rfl]at BC;refine⟨λh=>⟨h,trivial⟩,λh=>⟨h,trivial⟩,λh=>by rw[h];rfl,?_⟩;by_cases h0:r.1=0
   ·have Fz:HX (bad,A,B,D) r=(bad||!AG r,A++[r],B,D):=by simp[HX,h0]
    simp only[h0,ZHE,ZGC];rw[Fz]at BC;refine⟨⟨by simp;omega,by simp;omega⟩,hf,?_⟩;have e0:(((0:Int),r.2.1,r.2.2):O)=r:=by rw[←h0]
    rw[e0];exact BC _ rfl
   ·simp only[beq_eq_false_iff_ne.2 h0,ZF9];by_cases h1:r.1=1
    ·have Fz:HX (bad,A,B,D) r=(bad||!AG r,A,B++[r],D):=by simp[HX,h1]
     simp only[h1,ZHE,ZGC];rw[Fz]at BC;refine⟨⟨by simp;omega,by simp;omega⟩,hf,?_⟩;have e1:(((1:Int),r.2.1,r.2.2):O)=r:=by rw[←h1]
     rw[e1];exact BC _ rfl
    ·have Fz:HX (bad,A,B,D) r=(bad||!AG r,A,B,D++[r]):=by simp[HX,h0,h1]
     simp only[beq_eq_false_iff_ne.2 h1,ZF9];rw[Fz]at BC;exact⟨⟨by simp;omega,by simp;omega⟩,hf,BC _ rfl⟩
  ·simp only[show((1:Int)==-1)=false from rfl,ZHE,ZF9,ZGC];exact⟨hf,BC _ rfl⟩
  ·simp only[ZHE,ZGC];have :=BJ rfl;rw[U8]at this;rw[JA];cases hv:CZ p with|true=>rfl|false=>rw[hv]at this;cases this
 rintro⟨bad,A,B,D⟩R IP;rw[U8]at IP;have hv:CZ p=false:=by cases h:CZ p with|true=>rw[h]at IP;cases IP|false=>rfl
 rw[hv]at IP;simp only[ZGh,ZHM,ZHl]at IP;have HI:=qW (Aq p);rw[IP]at HI;clear IP;obtain⟨Ht,hA,hB,hD,hlen⟩:=HI;simp only at Ht hA hB hD hlen;obtain⟨DD,En⟩:=Pz PO hd hv;have Hr:=SD PO hd;have Ki:=VG PO;rw[←Ht]at En;generalize Aq p=l at*;generalize Af p=T at*;have Gq:=Ki.1;have Yb:∀c∈l,c.2.2.1.length=n∧D7 c.2.2.1∧CF c.2.2.2:=λc hc=>⟨(Hr c hc).1.1,Mf (Ki.2 c hc).2,(Ki.2 c hc).2.2.2⟩;simp only[ZGH,ZGQ,ZF9];have Xf:∀c∈A,Mk n c∧c.1=0:=λc hc=>⟨Hr c ((hA c).1 hc).1,((hA c).1 hc).2⟩;refine Lp.iter A.length (λi y=>∃out,y=((i:Int),out)∧(∀x,x∈out↔Lm (A.take i) x)∧out.length≤i) ⟨[],rfl,by simp[Lm],by simp⟩ ?_;rintro i y PH⟨out,rfl,La,C2⟩R hR;by_cases e:i<A.length
 ·have Cd:=AV (d:=U) e;have Bb:=B0 U e;obtain⟨hcM,Be⟩:=Xf _ Cd;have hcl:=Yb _ ((hA _).1 Cd).1;have hoA:∀d∈out,d.2.2.1.length=n:=λd hd=>(Xf d (ZGl ((La d).1 hd).1)).1.1.1;have BW:=ZDn (λd hd=>Xf d (ZGl hd)) hcM Be La;rw[←Bb]at BW;simp only[ZGB (show(i:Int)<(A.length:Int)by omega),ZGD,ZGC];refine⟨⟨by omega,by omega⟩,e,?_⟩;refine Lp.iter out.length (λj y=>y=((j:Int),Lq (out.take j) (A.getD i U),Ic (out.take j) (A.getD i U)++out.drop j)) (by simp[Lq,Ic]) ?_;rintro j y Q3 rfl R' hR';have Kk:(Ic (out.take j) (A.getD i U)).length=j:=by rw[rS];simp;omega
  by_cases e2:j<out.length
  ·have ZB0:=B0 U e2;have BR:=ZAv (d:=U) (out:=out) Kk;have ZBU:=ZCV (out:=out) Kk Q3;have hdl:=hoA _ (AV (d:=U) e2);simp only[ZGB (show(j:Int)<(out.length:Int)by omega),ZGD,ZGC,BR,ZBU];refine⟨⟨by omega,by omega⟩,e2,⟨hdl.trans hcl.1.symm,by show(out.getD j U).2.2.1.length≤_;omega,hcl.2.1⟩,?_⟩;have KA:=hR' e2;rw[ZB0,ZDm,ZDp]at KA;by_cases h1:(out.getD j U).2.2.1=(A.getD i U).2.2.1
   ·rw[Pt.2 h1];rw[ZGE h1,ZGB h1,ZHo]at KA;refine⟨⟨by omega,by omega⟩,e2,⟨by omega,by omega⟩,e2,⟨by omega,by omega⟩,KA _ ?_⟩;have Gw:(Ic (out.take j) (A.getD i U)++out.drop j).set j (Dw (out.getD j U) (A.getD i U).2.2.2)=Ic (out.take j) (A.getD i U)++[Dw (out.getD j U) (A.getD i U).2.2.2]++out.drop (j+1):=by rw[ZIO _ _ (by omega),Kk,ZIr,ZG2 e2,ZJz,ZGy];rfl
    exact ZGr (λz=>((j:Int)+1,true,z)) Gw
   ·have Yw:Cl (out.getD j U) (A.getD i U)≠1:=λh=>h1 (Pt.1 h);rw[beq_eq_false_iff_ne.2 Yw];rw[ZGA h1,ZGF h1,ZIW]at KA;refine⟨⟨by omega,by omega⟩,KA _ ?_⟩;rw[ZGy,ZJE,A6 e2,←ZG2 e2];rfl
  ·have :j=out.length:=by omega
   subst this;simp only[ZGH,ZGQ,ZF9,ZGN,ZHN,ZGZ];unfold aP at BW;cases hh:Lq out (A.getD i U)with|true=>rw[hh]at BW;simp only[ZGq,ZF9];refine⟨⟨by omega,by omega⟩,hR e _ ⟨_,rfl,BW,by rw[rS];omega⟩⟩|false=>rw[hh]at BW;simp only[ZGz,ZGC,ZDo hh];exact⟨⟨by simp;omega,by simp;omega⟩,⟨by omega,by omega⟩,hR e _ ⟨_,rfl,BW,by simp;omega⟩⟩
 have hiA:i=A.length:=by omega
 subst hiA;clear hR PH e;simp only[ZGH,ZGQ,ZF9,ZGD];rw[ZGN]at La;have Xj:∀x,x∈out↔Lm l x∧x.1=0:=λx=>by
  rw[La];constructor;·intro h;have h0:x.1=0:=((hA x).1 h.1).2;refine⟨⟨((hA x).1 h.1).1,λ_ d hd hd0 hd1=>h.2 h0 d ((hA d).2 ⟨hd,hd0⟩) hd0 hd1⟩,h0⟩
  ·rintro⟨h,h0⟩;exact⟨(hA x).2 ⟨h.1,h0⟩,λ_ d hd hd0 hd1=>h.2 h0 d ((hA d).1 hd).1 hd0 hd1⟩
 clear La;generalize out=G at*;have hGl:G.length≤1048576:=by omega
 have Tk:∀k,k<G.length→Mk n (G.getD k U)∧(G.getD k U).1=0∧Lm l (G.getD k U)∧(G.getD k U).2.2.1.length=n∧D7 (G.getD k U).2.2.1∧CF (G.getD k U).2.2.2∧condB (G.getD k U):=λk hk=>by have h1:=(Xj _).1 (AV (d:=U) hk);have h2:=Yb _ h1.1.1;exact⟨Hr _ h1.1.1,h1.2,h1.1,h2.1,h2.2.1,h2.2.2,Ki.2 _ h1.1.1⟩
 refine⟨⟨by omega,by omega,by omega,by omega⟩,?_⟩;have kL:∀i,i≤G.length→i*G.length≤1048576*1048576:=λi hi=>ZIE (by omega) hGl;refine Lp.iter G.length (λi y=>∃E gone,y=((i:Int),E,gone)∧G6 G B i (i+1) E gone∧E.length≤B.length+i*G.length) ⟨B,_,rfl,G6.nil G B,by simp⟩ ?_;rintro i y PH⟨E,gone,rfl,hI,hEl⟩R hR;by_cases e:i<G.length
 ·obtain⟨hiM,hi0,T2,hin,Ek,YR,lN⟩:=Tk i e;simp only[ZGB (show(i:Int)<(G.length:Int)by omega),ZGD,ZGC];refine⟨⟨by omega,by omega⟩,e,⟨by omega,by omega⟩,?_⟩;refine Lp.iter (G.length-(i+1)) (λm y=>∃E' gone',y=((i:Int)+1+m,E',gone')∧G6 G B i (i+1+m) E' gone'∧E'.length≤B.length+i*G.length+m) ⟨E,gone,by simp,hI,by omega⟩ ?_;rintro m y ZFz⟨E',gone',rfl,hI',ZFc⟩R' hR';have hNi:=kL i (by omega);by_cases e2:m<G.length-(i+1)
  ·have ej:i+1+m<G.length:=by omega
   obtain⟨hjM,Hv,YT,hjn,Kh,lQ,hjb⟩:=Tk (i+1+m) ej;have htn:((i:Int)+1+m).toNat=i+1+m:=by omega
   have Hu:=hI'.gl;simp only[ZGB (show(i:Int)+1+m<(G.length:Int)by omega),htn,ZGC];unfold CF at YR lQ;refine⟨⟨by omega,by omega⟩,ej,⟨hin.trans hjn.symm,by show(G.getD i U).2.2.1.length≤_;omega,Kh⟩,?_⟩;by_cases hs:Cl (G.getD i U) (G.getD (i+1+m) U)=-1
   ·simp only[hs,ZGb,ZF9];refine⟨⟨by omega,by omega⟩,?_⟩;have PY:(G.getD i U).2.2.2+(G.getD (i+1+m) U).2.2.2<0→T=([],true,0):=λh=>DD (.inl ⟨_,_,T2,YT,hi0,Hv,(VN (hiM.gcd hi0)).1 hs,h⟩);by_cases h1:(G.getD i U).2.2.2+(G.getD (i+1+m) U).2.2.2<0;·simp only[ZGB h1,ZGC];exact(PY h1).symm
    ·simp only[ZGF h1,ZF9];refine⟨⟨by omega,by omega⟩,?_⟩;by_cases h2:(G.getD i U).2.2.2+(G.getD (i+1+m) U).2.2.2=0;·simp only[h2,ZHE,ZGC];have EW:=hI'.put (by omega) ej ⟨hs,h2⟩;refine⟨⟨by omega,by omega⟩,by omega,⟨by omega,by simp;omega⟩,by simp;omega,⟨.inr (.inl rfl),lN.2⟩,⟨by simp;omega,by simp;omega⟩,⟨by omega,by omega⟩,hR' e2 _ ⟨_,_,?_,EW,by simp;omega⟩⟩;exact ZGr (λz:Int=>(z,E'++[F6 (G.getD i U)],(gone'.set i true).set (i+1+m) true)) (by omega)
     ·simp only[beq_eq_false_iff_ne.2 h2,ZF9];have KF:=hI'.skip (by omega) ej λ_=>by omega
      refine⟨⟨by omega,by omega⟩,hR' e2 _ ⟨_,_,?_,KF,by omega⟩⟩;exact ZGr (λz:Int=>(z,E',gone')) (by omega)
   ·simp only[bne_iff_ne.2 hs,ZGC];have KF:=hI'.skip (by omega) ej λh=>absurd h hs;refine⟨⟨by omega,by omega⟩,hR' e2 _ ⟨_,_,?_,KF,by omega⟩⟩;exact ZGr (λz:Int=>(z,E',gone')) (by omega)
  ·have hm:i+1+m=G.length:=by omega
   rw[hm]at hI';simp only[ZGF (show¬(i:Int)+1+m<(G.length:Int)by omega),ZF9];refine⟨⟨by omega,by omega⟩,hR e _ ⟨_,_,rfl,hI'.row,?_⟩⟩;rw[ZHS];omega
 have YP:i=G.length:=by omega
 subst YP;clear hR PH e;simp only[ZGH,ZGQ,ZF9,ZGD];have hP:=hI.done Hr Xj hB;have hNi:=kL G.length (ZGR _);have hEB:E.length≤1048576+1099511627776:=by omega
 clear hI hEl;have KZ:∀k,k<E.length→Mk n (E.getD k U)∧(E.getD k U).1=1∧MM (Lm l) (E.getD k U)∧(E.getD k U).2.2.1.length=n∧D7 (E.getD k U).2.2.1∧CF (E.getD k U).2.2.2:=λk hk=>by
  have h1:=(hP.ee _).1 (AV (d:=U) hk);have h3:Mk n (E.getD k U)∧condB (E.getD k U):=by
   rcases h1.1 with⟨h2,_⟩|⟨c,hc,c0,_,h2⟩;·exact⟨Hr _ h2.1,Ki.2 _ h2.1⟩
   ·rw[h2];exact⟨(KM (Hr c hc.1) c0).1,iH (Ki.2 c hc.1).2⟩
  exact⟨h3.1,h1.2,h1.1,h3.1.1.1,Mf h3.2.2,h3.2.2.2.2⟩
 refine Lp.iter E.length (λi y=>∃gone',y=((i:Int),gone')∧KO G E gone i gone') ⟨gone,rfl,KO.nil hP.gl⟩ ?_;rintro i y PH⟨gone1,rfl,hI⟩R hR;by_cases e:i<E.length
 ·obtain⟨hiM,hi1,T2,hin,Ek,YR⟩:=KZ i e;have Hu:=hI.gl;simp only[ZGB (show(i:Int)<(E.length:Int)by omega),ZGD,ZGC];refine⟨⟨by omega,by omega⟩,e,⟨by omega,by omega⟩,?_⟩;refine Lp.iter i (λj y=>y=(j:Int)∧∀a,a<j→(E.getD i U).2.2.1=(E.getD a U).2.2.1→(E.getD i U).2.2.2=(E.getD a U).2.2.2) ⟨rfl,λa ha=>absurd ha (by omega)⟩ ?_;rintro j y Q3⟨rfl,hj⟩R2 BJ;by_cases e2:j<i
  ·obtain⟨hjM,Ix,YT,hjn,Kh,lQ⟩:=KZ j (by omega);simp only[ZGB (show(j:Int)<(i:Int)by omega),ZGD,ZGC,ZGu];refine⟨⟨by omega,by omega,by omega⟩,by omega,⟨hin.trans hjn.symm,by show(E.getD i U).2.2.1.length≤_;omega,Kh⟩,λh=>⟨h,trivial⟩,λh=>⟨h,trivial⟩,λh=>⟨h,trivial⟩,λh=>⟨h,trivial⟩,λh=>⟨h,h,trivial⟩,λh=>h,?_⟩;by_cases hs:(E.getD i U).2.2.1=(E.getD j U).2.2.1
   ·rw[Pt.2 hs];by_cases hk:(E.getD i U).2.2.2=(E.getD j U).2.2.2
    ·simp only[hk,ZGb,ZJA,ZF9];refine⟨⟨by omega,by omega⟩,BJ e2 _ ⟨rfl,λa ha h=>?_⟩⟩;by_cases Xs:a=j;·subst Xs;exact hk
     ·exact hj a (by omega) h
    ·simp only[bne_iff_ne.2 hk,ZHE,ZIC,ZGC];exact(DD (.inr (.inl ⟨_,_,T2,YT,hi1,Ix,hs,hk⟩))).symm
   ·have Yw:Cl (E.getD i U) (E.getD j U)≠1:=λh=>hs (Pt.1 h);simp only[beq_eq_false_iff_ne.2 Yw,ZJB,ZF9];refine⟨⟨by omega,by omega⟩,BJ e2 _ ⟨rfl,λa ha h=>?_⟩⟩;by_cases Xs:a=j;·subst Xs;exact absurd h hs
    ·exact hj a (by omega) h
  ·have Kh:j=i:=by omega
   subst Kh;simp only[ZGH,ZGQ,ZF9];refine Lp.iter G.length (λk y=>∃gone',y=((k:Int),gone')∧JD G E gone j k gone1 gone') ⟨gone1,rfl,JD.nil Hu⟩ ?_;rintro k y ZBR⟨gone',rfl,hr⟩R3 IE;have ZFs:=hr.gl;by_cases e3:k<G.length
   ·obtain⟨hkM,IK,hkL,hkn,PJ,T6,MO⟩:=Tk k e3;simp only[ZGB (show(k:Int)<(G.length:Int)by omega),ZGD,ZGC];refine⟨⟨by omega,by omega⟩,e3,⟨by omega,by omega⟩,by omega,λh=>⟨h,h,⟨hin.trans hkn.symm,by show(E.getD j U).2.2.1.length≤_;omega,PJ⟩⟩,λh=>⟨h,trivial⟩,λh=>by rw[h];rfl,?_⟩;have hEM:∀a,a≤j→Mk n (E.getD a U)∧(E.getD a U).1=1:=λa ha=>⟨(KZ a (by omega)).1,(KZ a (by omega)).2.1⟩;by_cases KF:gone'.getD k false=true∨Cl (E.getD j U) (G.getD k U)=0
    ·have hb:(gone'.getD k false||Cl (E.getD j U) (G.getD k U)==0)=true:=by
      rcases KF with h|h;·rw[h,ZHp]
      ·rw[h,ZHE,ZHo]
     rw[hb];exact⟨⟨by omega,by omega⟩,IE e3 _ ⟨_,rfl,JD.skip hEM hI hj hr e3 KF⟩⟩
    ·rw[ZGx]at KF;have Qx:gone'.getD k false=false:=by simpa using KF.1
     simp only[Qx,beq_eq_false_iff_ne.2 KF.2,Bool.or_self,ZF9];unfold CF at YR T6;have Eo:=ZD8 (E.getD j U) (G.getD k U);have hmul:∀s:Int,s=1∨s=-1∨s=0→AA .i64 (s*(E.getD j U).2.2.2)∧AA .i64 ((G.getD k U).2.2.2-s*(E.getD j U).2.2.2):=λs hs=>by
      rcases hs with rfl|rfl|rfl;·exact⟨⟨by omega,by omega⟩,⟨by omega,by omega⟩⟩
      ·exact⟨⟨by omega,by omega⟩,⟨by omega,by omega⟩⟩
      ·exact⟨⟨by omega,by omega⟩,⟨by omega,by omega⟩⟩
     refine⟨⟨hin.trans hkn.symm,by show(E.getD j U).2.2.1.length≤_;omega,PJ⟩,(hmul _ Eo).1,(hmul _ Eo).2,?_⟩;have Ng:gone.getD k false=false∧∀a,a<j→Cl (E.getD a U) (G.getD k U)=0:=by
      have h1:¬gone1.getD k false=true:=λh=>by have :=(hr.gg k e3).2 (.inl h);rw[Qx]at this;cases this
      have h2:¬(gone.getD k false=true∨∃a,a<j∧Cl (E.getD a U) (G.getD k U)≠0):=λh=>h1 ((hI.gg k e3).2 h);rw[ZGx]at h2;refine⟨by simpa using h2.1,λa ha=>?_⟩;rcases ZJe (Cl (E.getD a U) (G.getD k U)=0)with h3|h3;·exact h3
      ·exact absurd ⟨a,ha,h3⟩ h2.2
     have ZBQ:MM (Lm l) (G.getD k U):=.inl ⟨hkL,λ_ ho=>by have :=(hP.gg k e3).2 ho;rw[Ng.1]at this;cases this⟩;by_cases Cj:(G.getD k U).2.2.2-Cl (E.getD j U) (G.getD k U)*(E.getD j U).2.2.2<0
     ·simp only[ZGB Cj,ZGC];refine(DD (.inr (.inr ⟨_,_,ZBQ,T2,IK,hi1,?_⟩))).symm;rcases Eo with h1|h1|h1;·rw[h1]at Cj;exact .inl ⟨Pt.1 h1,by omega⟩
      ·rw[h1]at Cj;have h2:=(VN (hiM.1.2.1 (by omega))).1 h1;exact .inr ⟨by rw[h2,N3],by omega⟩
      ·exact absurd h1 KF.2
     ·simp only[ZGF Cj,ZF9];exact⟨⟨by omega,by omega⟩,by omega,⟨by omega,by omega⟩,IE e3 _ ⟨_,rfl,hr.put e3 KF.2 (by omega) (hiM.1.2.1 (by omega))⟩⟩
   ·have hkG:k=G.length:=by omega
    subst hkG;simp only[ZGH,ZGQ,ZF9];exact⟨⟨by omega,by omega⟩,hR e _ ⟨_,rfl,hI.row hj hr⟩⟩
 have hiE:i=E.length:=by omega
 subst hiE;clear hR PH e;simp only[ZGH,ZGQ,ZF9];have Hu:=hI.gl;refine Lp.iter G.length (λi y=>∃out,y=((i:Int),out)∧(∀x,x∈out↔x∈E∨∃k,k<i∧gone1.getD k false=false∧x=G.getD k U)∧out.length≤E.length+i) ⟨E,rfl,λx=>⟨.inl,λh=>h.elim id λ⟨k,hk,_⟩=>absurd hk (by omega)⟩,by omega⟩ ?_;rintro i y PH⟨out,rfl,La,C2⟩R hR;by_cases e:i<G.length;·simp only[ZGB (show(i:Int)<(G.length:Int)by omega),ZGD,ZGC];refine⟨⟨by omega,by omega⟩,e,⟨by omega,by omega⟩,by omega,?_⟩;cases hg:gone1.getD i false with
  |false=>
   simp only[ZGz,ZGC];refine⟨⟨by simp;omega,by simp;omega⟩,⟨by omega,by omega⟩,hR e _ ⟨_,rfl,λx=>?_,by simp;omega⟩⟩;rw[ZGa,ZGT,La,ZKm];refine ZJv ZJC ⟨?_,?_⟩
   ·rintro(⟨k,hk,h⟩|rfl);·exact⟨k,by omega,h⟩
    ·exact⟨i,by omega,hg,rfl⟩
   ·rintro⟨k,hk,h1,h2⟩;rcases ZHj k i with h3|h3;·exact .inl ⟨k,h3,h1,h2⟩
    ·have :k=i:=by omega
     subst this;exact .inr h2|true=>
   simp only[ZGq,ZF9];refine⟨⟨by omega,by omega⟩,hR e _ ⟨_,rfl,λx=>?_,by omega⟩⟩;rw[La];refine ZJv ZJC ⟨?_,?_⟩;·rintro⟨k,hk,h⟩;exact⟨k,by omega,h⟩
   ·rintro⟨k,hk,h1,h2⟩;rcases ZHj k i with h3|h3;·exact⟨k,h3,h1,h2⟩
    ·have :k=i:=by omega
     subst this;rw[hg]at h1;cases h1
 have YP:i=G.length:=by omega
 subst YP;simp only[ZGH,ZGQ,ZF9];have A4:∀x,x∈out++D↔x∈E∨(∃k,k<G.length∧gone1.getD k false=false∧x=G.getD k U)∨x∈l∧x.1=2:=λx=>by
  rw[ZGa,La,ZKm];refine ZJv ZJC (ZJv ZJC ?_);rw[hD];constructor
  ·rintro⟨h1,h2,h3⟩;rcases(Hr x h1).2.1 with h|h|h;·exact absurd h h2
   ·exact absurd h h3
   ·exact⟨h1,h⟩
  ·rintro⟨h1,h2⟩;exact⟨h1,by omega,by omega⟩
 obtain⟨Yi,JU⟩:=hI.done Hr Xj hP A4;have hT:=En hP.nv Yi _ JU;have ZBC:A3 (out++D) n:=λx hx=>by
  rcases(A4 x).1 hx with h|⟨k,hk,_,rfl⟩|⟨h,_⟩;·obtain⟨k,hk,rfl⟩:=Fe (d:=U) h;exact(KZ k hk).2.2.2.1
  ·exact(Tk k hk).2.2.2.1
  ·exact(Yb x h).1
 refine⟨⟨by omega,by omega⟩,⟨by show(out++D).length≤_;simp only[ZGI];omega,n,hn,ZBC⟩,λh=>⟨h,trivial⟩,λh=>⟨h,trivial⟩,λh=>by rw[h];rfl,?_⟩;rw[hT];have e1:decide ((96:Int)<((BB (out++D)).length:Int))=decide (96<(BB (out++D)).length):=decide_eq_decide.2 (by omega);rw[e1];cases bad||decide (96<(BB (out++D)).length)<;>rfl
theorem uT{n:Int}(h1:-9223372036854775808≤n)(h2:n≤9223372036854775807):IntKind.wrap .i64 n=n:=by simp[IntKind.wrap,IntKind.bits,IntKind.signed];omega
theorem ZAe(l:List AM)(s:AM):Ot (l++[s])=IntKind.wrap .i64 (Ot l+(s.2.length:Int)):=by simp[Ot]
theorem CH.spec(n m:Int)(l:List AM)(hl:l.length≤9223372036854775807)(hs:∀s∈l,s.2.length≤9223372036854775807):CH.wp n m l λr=>r=CH.fn (n,m,l,()):=by
 have hfn:CH.fn (n,m,l,())=(Oq m l&&decide (Ot l≤n)):=rfl;simp only[CH.wp,hfn];refine Lp.iter l.length (λi y=>y=((i:Int),Ot (l.take i))∧Oq m (l.take i)=true) ⟨rfl,rfl⟩ ?_;rintro i y hle⟨rfl,hf⟩R hR;by_cases e:i<l.length
 ·have Bb:=B0 ((0,[]):AM) e;have Kn:=hs _ (AV (d:=((0,[]):AM)) e);simp only[ZGB (show(i:Int)<(l.length:Int)by omega),ZGD,ZGC];refine⟨⟨by omega,by omega⟩,?_⟩;have hall:Oq m l=true→∀p∈(l.getD i (0,[])).2,(p.length:Int)≤m:=λh p hp=>by have :=List.all_eq_true.1 h _ (AV (d:=((0,[]):AM)) e);have :=List.all_eq_true.1 this p hp;simpa using this
  refine Lp.iter (l.getD i (0,[])).2.length (λj y=>y=(j:Int)∧∀k,k<j→((((l.getD i (0,[])).2.getD k []).length:Nat):Int)≤m) ⟨rfl,λk hk=>absurd hk (by omega)⟩ ?_;rintro j y Q3⟨rfl,hj⟩R' hR';by_cases e2:j<(l.getD i (0,[])).2.length
  ·simp only[ZGB (show(j:Int)<((l.getD i (0,[])).2.length:Int)by omega),ZGD,ZGC];refine⟨⟨by omega,by omega⟩,?_⟩;by_cases h1:m<((((l.getD i (0,[])).2.getD j []).length:Nat):Int);·simp only[ZGB h1,ZGC];cases MJ:Oq m l with|false=>rfl|true=>have :=hall MJ _ (AV (d:=[]) e2);omega
   ·simp only[ZGF h1,ZF9];rw[uT (by omega) (by omega)];refine hR' e2 _ ⟨rfl,λk hk=>?_⟩;by_cases YW:k=j;·subst YW;omega
    ·exact hj k (by omega)
  ·have :j=(l.getD i (0,[])).2.length:=by omega
   subst this;simp only[ZGH,ZGQ,ZF9];rw[uT (n:=(i:Int)+1) (by omega) (by omega)];refine hR e _ ⟨?_,?_⟩;·rw[Bb,ZAe];rfl
   ·rw[Bb];unfold Oq at hf⊢;rw[ZIR,hf];simp only[ZIj,ZJD,ZIC,ZH2,ZHi,ZG0];intro p hp;obtain⟨k,hk,rfl⟩:=Fe (d:=[]) hp;exact hj k hk
 ·have :i=l.length:=by omega
  subst this;rw[ZGN]at hf⊢;simp only[ZGH,ZGQ,ZF9,hf,ZH2]
theorem CO.spec(x:AM)(hl:x.2.length≤9223372036854775807):CO.wp x λr=>r=CO.fn (x,()):=by
 obtain⟨n,ps⟩:=x;simp only[CO.wp,CO.fn,EY.fn];have hg:∀b:Bool,b=true→b=true∧True:=λb h=>⟨h,trivial⟩;have hn:∀b:Bool,b=false→(!b)=true:=λb h=>by rw[h];rfl
 refine⟨hg _,hg _,hn _,hg _,hg _,hg _,hn _,?_⟩;by_cases h1:n<0;·simp[h1,AY,show¬0≤n by omega]
 by_cases h2:12<n;·simp[h1,h2,AY,show¬n≤12 by omega]
 by_cases h3:(400:Int)<(ps.length:Int);·simp only[ZGB h3,ZHo,ZGC];simp[AY,show¬(ps.length:Int)≤400 by omega]
 rw[ZGF h1,ZGF h2,ZGF h3];have hv:∀b,ps.all (λp=>decide ((p.length:Int)≤96)&&GS p n)=b→AY (n,ps)=b:=λb h=>by simp only[AY,h];rw[ZGB (show(0:Int)≤n by omega),ZGB (show n≤12 by omega),ZGB (show(ps.length:Int)≤400 by omega)];rfl
 refine Lp.all ps [] (λp=>decide ((p.length:Int)≤96)&&GS p n) hl (λi R hi hi' hf ht ET=>?_) λR h=>?_
 ·simp only[ZGB hi',ZGD];refine⟨⟨by omega,hi'⟩,?_⟩;by_cases h4:(96:Int)<((ps.getD i []).length:Int);·simp only[ZGB h4,ZGC];exact(hv false (ET (by rw[ZGF (show¬((ps.getD i []).length:Int)≤96 by omega)];rfl))).symm
  ·simp only[ZGF h4,ZF9];have h5:decide (((ps.getD i []).length:Int)≤96)=true:=ZGB (by omega);rw[h5,ZH2]at ht ET;refine Lp.all (ps.getD i []) U (λc=>AG c&&(c.2.2.1.length:Int)==n) (by omega) (λj R' hj hj' hf' ht' PC=>?_) λR' h'=>?_
   ·simp only[ZGB hj',ZGD,ZGC];refine⟨⟨by omega,by omega⟩,hg _,hg _,hg _,hg _,λh=>⟨h,h,trivial⟩,λh=>by rw[h];rfl,?_⟩;have hb:( !AG ((ps.getD i []).getD j U)||(((ps.getD i []).getD j U).2.2.1.length:Int)!=n)=!(AG ((ps.getD i []).getD j U)&&(((ps.getD i []).getD j U).2.2.1.length:Int)==n):=by rw[Bool.not_and];rfl
    rw[hb];by_cases h6:(AG ((ps.getD i []).getD j U)&&(((ps.getD i []).getD j U).2.2.1.length:Int)==n)=true;·have :=ht' h6;rw[h6];exact⟨hf',this⟩
    ·rw[ZHs]at h6;have :=PC h6;rw[h6];exact(hv false (ET this)).symm
   ·simp only[ZGH,ZGQ,ZF9];exact⟨hf,ht h'⟩
 ·simp only[ZGH,ZGQ,ZF9];exact(hv true h).symm
def H0(n:Int)(l:List Int):Bool:=decide (∀v∈l,0≤v∧v<n)&&decide l.Nodup
theorem VA{n:Int}{l:List Int}:H0 n l=true↔(∀v∈l,0≤v∧v<n)∧l.Nodup:=by unfold H0;rw[ZGW,ZGw,ZGw]
theorem ZDF{n:Int}{l:List Int}{i:Nat}(h:H0 n l=true):H0 n (l.take i)=true:=by rw[VA]at h⊢;exact⟨λv hv=>h.1 v (ZGl hv),h.2.sublist (List.take_sublist _ _)⟩
theorem qZ{n:Int}{l:List Int}{i:Nat}(h:H0 n (l.take i)=true)(e:i<l.length):H0 n (l.take (i+1))=true↔(0≤l.getD i 0∧l.getD i 0<n)∧l.getD i 0∉l.take i:=by
 rw[VA]at h⊢;rw[B0 0 e,List.nodup_append];constructor;·rintro⟨h1,_,_,h2⟩;exact⟨h1 _ (by simp),λhm=>h2 _ hm _ (by simp) rfl⟩
 ·rintro⟨h1,h2⟩;refine⟨λv hv=>?_,h.2,by simp,λa ha b hb=>?_⟩
  ·rcases List.mem_append.1 hv with hv|hv;·exact h.1 v hv
   ·rw[List.mem_singleton.1 hv];exact h1
  ·rw[List.mem_singleton.1 hb];rintro rfl;exact h2 ha
theorem ZDE{n:Int}{l:List Int}{i:Nat}(h:H0 n (l.take i)=true)(e:i<l.length)(hb:¬((0≤l.getD i 0∧l.getD i 0<n)∧l.getD i 0∉l.take i)):H0 n l=false:=by cases hp:H0 n l with|false=>rfl|true=>exact absurd ((qZ h e).1 (ZDF hp)) hb
def Az(C:List Int)(i:Nat):List Int:=C.take i++C.drop (i+1)
abbrev CD.fn(x:AN×Int×Unit):AN:=(Az x.1.1 x.2.1.toNat,x.1.2)
abbrev CD.pre(x:AN×Int×Unit):Prop:=x.1.1.length≤1048576∧0≤x.2.1∧x.2.1<(x.1.1.length:Int)
def CD.wp(x0:AN)(x1:Int)(Q:AN→Prop):Prop:=Lp (σ:=Int×Int×List Int) (λy3 R3=>let v0:=x0.1.getD y3.1.toNat 0;cond (decide (y3.1<x0.1.length)) ((0≤y3.1∧y3.1<x0.1.length)∧cond (y3.1 !=x1) (((y3.2.2.length+List.length [v0])*8≤140737488355328∧y3.2.2.length+List.length [v0]≤9223372036854775807)∧AA .i64 (y3.1+1)∧R3 ( y3.1+1,(y3.2.1,y3.2.2++[v0]))) (AA .i64 (y3.1+1)∧R3 ( y3.1+1,y3.2))) (Q (y3.2.2,y3.2.1))) (0,(x0.2,([]:List Int)))
theorem Ox{α β:Type}{l:List α}{f:α→β}{d:α}{e:β}{i:Nat}(h:i<l.length):(l.map f).getD i e=f (l.getD i d):=by simp[ZGG,h]
theorem NC{C:List Int}{i:Nat}(h:i<C.length):(Az C i).length=C.length-1:=by unfold Az;simp;omega
theorem Wc{C:List Int}{i:Nat}{n:Int}(h:n∈Az C i):n∈C:=by
 unfold Az at h;rcases List.mem_append.1 h with h|h;·exact ZGl h
 ·exact ZKj h
theorem Xa{C:List Int}{i:Nat}{P:Int→Prop}(h:∀n∈C,P n)(h0:P 0):P (C.getD i 0):=by
 by_cases e:i<C.length;·exact h _ (AV e)
 ·rw[ZGG,ZHL (by omega)];exact h0
theorem ZEf{C:List Int}{i k:Nat}(h:k<C.length):Az (C.take (k+1)) i=if k=i then Az (C.take k) i else Az (C.take k) i++[C.getD k 0]:=by
 unfold Az;rw[B0 0 h];have hl:(C.take k).length=k:=by simp;omega
 by_cases e:k=i;·rw[ZGE e];subst e;rw[ZI5 (by omega),ZIL (by simp;omega),ZIL (by omega)]
 ·rw[ZGA e];by_cases hk:k<i;·have t1:(List.take k C++[C.getD k 0]).take i=List.take k C++[C.getD k 0]:=ZHt (by simp only[ZGI,ZGL,ZGS];omega);have t2:(List.take k C++[C.getD k 0]).drop (i+1)=[]:=ZIL (by simp only[ZGI,ZGL,ZGS];omega);have t3:(List.take k C).take i=List.take k C:=ZHt (by omega);have t4:(List.take k C).drop (i+1)=[]:=ZIL (by omega);rw[t1,t2,t3,t4,ZGZ,ZGZ]
  ·rw[ZI5 (by omega),List.drop_append_of_le_length (by omega),ZGy]
theorem CD.spec(l:AN)(i:Int)(hp:CD.pre (l,i,())):CD.wp l i λr=>r=CD.fn (l,i,()):=by
 obtain⟨hl,h0,h1⟩:=hp;simp only at hl h0 h1;obtain⟨n,rfl⟩:∃n:Nat,i=n:=⟨i.toNat,by omega⟩;simp only[CD.wp,CD.fn,ZGD];refine Lp.iter l.1.length (λk z=>z=((k:Int),l.2,Az (l.1.take k) n)) (by simp[Az]) ?_;rintro k z hk rfl R hR;by_cases e:k<l.1.length
 ·simp only[ZGB (show(k:Int)<(l.1.length:Int)by omega),ZGD,ZGC];refine⟨⟨by omega,by omega⟩,?_⟩;have BO:=ZEf (i:=n) e;have hcl:(Az (l.1.take k) n).length≤k:=by unfold Az;simp;omega
  by_cases hkn:k=n;·rw[show(((k:Nat):Int)!=(n:Int))=false by simp[hkn]];rw[ZGE hkn]at BO;exact⟨⟨by omega,by omega⟩,hR e _ (by rw[BO];rfl)⟩
  ·rw[show(((k:Nat):Int)!=(n:Int))=true by simp;omega];rw[ZGA hkn]at BO;exact⟨⟨by simp only[ZGL,ZGS];omega,by simp only[ZGL,ZGS];omega⟩,⟨by omega,by omega⟩,hR e _ (by rw[BO];rfl)⟩
 ·have :k=l.1.length:=by omega
  subst this;simp only[ZGH,ZGQ,ZF9,ZGN]
end Go.Proofs.YtgpdnmfpgkkgcaaGreatDoor
