/- Part of a proof that a law of the program holds for every input: what the functions answer, in plain Lean. No conditions. -/
import Derived.Below
import Derived.Carry
import Derived.ChangeOld
import Derived.LaidMore
import Derived.Lib.LaidTab
import Derived.OpenShut
import Derived.ProofKit
import Derived.ShutString
import Derived.SizedLaws
import Derived.Stop.Joined
import Derived.WalkKit
import Derived.Test.YtldikbpclaeajaaDoorP08
namespace Go.Proofs.YtldikbpclaeajaaDoor
open Go
set_option linter.defProp false
def jJ:=@List.of_mem_zip
def lD:=@Int.natAbs_of_nonneg
def lV:=@Bool.not_eq_true'
def lX:=@List.any_eq_false
def mQ:=@List.length_zip
set_option linter.unusedSimpArgs false
set_option linter.unusedVariables false
theorem DZ.spec(x y:Ag):DZ.wp x y λr=>r=DZ.fn (x,y,()):=by
 have hfn:DZ.fn (x,y,())=Gk x y:=rfl;simp only[DZ.wp,Dc.fn,hfn,Be.fn,Cg.fn];by_cases he:I9 x y=0
 ·have hM:Gk x y=if(B6 x).2≠0∨(B6 y).2≠0 then((0,[]),3)else KL x.1 ((B6 y).1.2.foldlM Ij (B6 x).1.2):=by unfold Gk;exact dK λh=>h he
  simp only[he,eI,dN];refine⟨λh=>⟨h,trivial⟩,λh=>by rw[h];rfl,?_⟩;by_cases hx:(B6 x).2=0
  ·by_cases hy:(B6 y).2=0
   ·simp only[hx,hy,eI,jZ,dN,ne_eq,kB,or_self,gK]at hM⊢;obtain⟨pX,eX⟩:=UR hx;obtain⟨pY,eY⟩:=UR hy;simp only[eX];generalize(B6 x).1.2=X at*;generalize(B6 y).1.2=Y at*;have cO:=pY.1;refine Lp.iter Y.length (λi z=>∃cur,z=((i:Int),(0:Int),x.1,cur,(0:Int))∧(Y.take i).foldlM Ij X=some cur) ⟨X,rfl,rfl⟩ ?_;rintro i z hle⟨cur,rfl,ht⟩R hR;have pC:=UG ht pX λp hp=>pY.v (fX hp);by_cases e:i<Y.length
    ·simp only[dL (show(i:Int)<(Y.length:Int)by omega),dP,dV];refine⟨⟨by omega,by omega⟩,?_⟩;have On:=pY.v (BQ (d:=[]) e);have hsn:=JV (d:=[]) ht e;have Ju:=Nu (d:=[]) ht e;have hT:Y.foldlM Ij X=none→Gk x y=((0,[]),3):=λh=>by rw[hM,h];rfl
     have cM:=pC.1;refine Lp.iter cur.length (λj z=>z.1=(j:Int)∧(cur.take j).foldlM (JG (Y.getD i [])) []=some z.2.1∧D5 z.2.1 z.2.2) ⟨rfl,rfl,D5.nil⟩ ?_;rintro j⟨z,o,mo⟩YF⟨hz,Ic,hm⟩R2 Bk;simp only at hz Ic hm;subst hz;have pO:=NF On Ic PP.nil λp hp=>pC.v (fX hp);by_cases e2:j<cur.length
     ·simp only[dL (show(j:Int)<(cur.length:Int)by omega),dP,dV];have TR:=pC.v (BQ (d:=[]) e2);have hsn2:=JV (d:=[]) Ic e2;have Lj:JG (Y.getD i []) o (cur.getD j [])=none→Gk x y=((0,[]),3):=λh=>hT (Ju (Nu (d:=[]) Ic e2 h));refine⟨⟨by omega,by omega⟩,⟨TR,On⟩,?_⟩;by_cases hc:(DG (cur.getD j []) (Y.getD i [])).2=0
      ·have X5:JG (Y.getD i []) o (cur.getD j [])=(DG (cur.getD j []) (Y.getD i [])).1.foldlM Bz o:=dK λh=>h hc;rw[X5]at hsn2 Lj;simp only[hc,eI,dN];obtain⟨hcl,Xx⟩:=RV TR On;refine Lp.tid (DG (cur.getD j []) (Y.getD i [])).1 o mo hm pO.1 hcl ?_ ?_
       ·intro k out m R' e3 e4 hf hk hl h1 h2 h3;simp only[dL e4,dP,dV];refine⟨⟨by omega,by omega⟩,VB (Xx _ (BQ e3)) hk hl (λh4 hn=>?_) (λhs=>⟨hf,h1 hs⟩) (λhn=>?_) λhs=>⟨hf,h2 hs⟩⟩;·simp only[AP.fn,h4,show((3:Int)!=0)=true from rfl,iV,dV];exact⟨λh=>by simp at h,λh=>by simp at h,(Lj (h3 hn)).symm⟩
        ·exact⟨λh=>by simp at h,λh=>by simp at h,(Lj (h3 hn)).symm⟩
       ·intro out m R' Yl hk hl;simp only[eB,eK,dN];exact⟨⟨by omega,by omega⟩,Bk e2 _ ⟨rfl,hsn2.trans Yl,hk⟩⟩
      ·simp only[bne_iff_ne.2 hc,dV,eI,iH];exact⟨λh=>⟨rfl,trivial⟩,λ_=>rfl,(Lj (dO hc)).symm⟩
     ·have :j=cur.length:=by omega
      subst this;simp only[eB,eK,dN,eI,Bool.or_self];rw[eD]at Ic;exact⟨λh=>⟨rfl,trivial⟩,λ_=>rfl,⟨by omega,by omega⟩,hR e _ ⟨o,rfl,hsn.trans Ic⟩⟩
    ·have :i=Y.length:=by omega
     subst this;simp only[eB,eK,dN];rw[eD]at ht;rw[hM,ht];rfl
   ·simp only[bne_iff_ne.2 hy,iH,dV];rw[hM,dO (.inr hy)]
  ·simp only[bne_iff_ne.2 hx,iV,dV];rw[hM,dO (.inl hx)]
 ·rw[bne_iff_ne.2 he];simp[Gk,he]
theorem C0.spec(l:List (List G))(f:(List G→Prop)×(List G→Bool))(hl:l.length≤9223372036854775807)(hp:C0.pre (l,f,())):C0.wp l f λr=>r=C0.fn (l,f,()):=by
 refine Lp.iter l.length (λi y=>y=(i:Int)∧∀j,j<i→f.2 (l.getD j [])=false) ⟨rfl,λj hj=>absurd hj (by omega)⟩ ?_;rintro i y hle⟨rfl,hi⟩R hR;have hd:=TX hi hle 0;have hfn:C0.fn (l,f,())=DN f.2 l 0:=rfl;rw[hfn];by_cases e:i<l.length;·simp only[dL (show(i:Int)<(l.length:Int)by omega),dP,dV];refine⟨⟨by omega,by omega⟩,hp _ (BQ e),?_⟩;rw[fU e]at hd;cases h0:f.2 (l.getD i [])with|true=>rw[B2 e]at h0;simp only[DN,h0,hP]at hd;show(i:Int)=_;omega|false=>
  refine⟨⟨by omega,by omega⟩,hR e _ ⟨by omega,λj hj=>?_⟩⟩;by_cases ej:j=i;·subst ej;exact h0
  ·exact hi j (by omega)
 ·have :i=l.length:=by omega
  subst this;simp only[eB,eK,dN];rw[iN]at hd;exact hd.symm
theorem DD.spec(l:List (List G))(f:(List G→Prop)×(List G→Bool))(hp:DD.pre (l,f,())):DD.wp l f λr=>r=DD.fn (l,f,()):=⟨hp,Ot (mC 0)⟩
theorem ND{n:Int}:B0 n=true↔-4294967296≤n∧n≤4294967296:=by simp[B0]
theorem PG{n m x y:Int}(hn:0≤n)(hm:0≤m)(h1:-n≤x)(h2:x≤n)(h3:-m≤y)(h4:y≤m):-(n*m)≤x*y∧x*y≤n*m:=by
 have h:(x*y).natAbs≤n.natAbs*m.natAbs:=by rw[Int.natAbs_mul];exact Nat.mul_le_mul (by omega) (by omega)
 have e:n*m=((n.natAbs*m.natAbs:Nat):Int):=by rw[kN,lD hn,lD hm]
 rw[e];omega
def GK(s:Int)(p:Int×Int):Option Int:=if(BF p.1&&B0 p.2)=true then some (s+p.1*p.2)else none
theorem LC:∀(a b:List Int)(s:Int),(a.zip b).foldlM GK s=if((a.zip b).all λp=>BF p.1&&B0 p.2)=true then some (s+Bs a b)else none
 |[],b,s=>by simp[Bs]|x::a,[],s=>by simp[Bs]|x::a,y::b,s=>by
  simp only[List.zip_cons_cons,fF,List.all_cons,Bs];by_cases h:(BF x&&B0 y)=true;·have h2:GK s (x,y)=some (s+x*y):=dO h;rw[h2];show(a.zip b).foldlM GK (s+x*y)=_;simp only[LC a b,h,jC,Int.add_assoc]
  ·have h2:GK s (x,y)=none:=dK h;rw[h2];simp only[jD]at h;simp only[h,Bool.false_and,eW,gK];rfl
theorem LD:∀{l:List (Int×Int)}{s t:Int},l.foldlM GK s=some t→s-4503599627370496*l.length≤t∧t≤s+4503599627370496*l.length
 |[],s,t,h=>by cases h;simp|p::l,s,t,h=>by
  simp only[fF,fA,eV]at h;obtain⟨u,h1,h2⟩:=h;have ih:=LD h2;unfold GK at h1;split at h1;·rename_i hp;cases h1;simp only[eP,IG,ND]at hp;have :=PG (n:=1048576) (m:=4294967296) (by omega) (by omega) hp.1.1 hp.1.2 hp.2.1 hp.2.2;simp only[dX];omega
  ·cases h1
theorem RT(n:Int):(decide (n< -4294967296)||decide (4294967296<n))=!B0 n:=by
 unfold B0;by_cases h3:n< -4294967296;·rw[dL h3,dR (show¬-4294967296≤n by omega)];rfl
 ·by_cases h4:4294967296<n;·rw[dL h4,dR (show¬n≤4294967296 by omega),Bool.and_false,iH];rfl
  ·rw[dR h3,dR h4,dL (show-4294967296≤n by omega),dL (show n≤4294967296 by omega)];rfl
theorem cD{a b:List Int}{i:Nat}(h:i<a.length)(h2:i<b.length):(a.zip b).getD i (0,0)=(a.getD i 0,b.getD i 0):=by rw[B2 (by simp;omega),B2 h,B2 h2];simp
theorem DR.spec(a b:List Int):DR.wp a b λr=>r=DR.fn (a,b,()):=by
 have hfn:DR.fn (a,b,())=C6 a b:=rfl;simp only[DR.wp,A5.fn,hfn];by_cases h1:a.length=b.length
 ·have e1:(((a.length:Nat):Int)!=((b.length:Nat):Int))=false:=by simp[h1]
  rw[e1];by_cases h2:12<a.length;·rw[dL (show(12:Int)<(a.length:Int)by omega)];show _=C6 a b;unfold C6;rw[dK λh=>h h1,dO h2]
  ·rw[dR (show¬(12:Int)<(a.length:Int)by omega)];have hd:C6 a b=if((a.zip b).all λp=>BF p.1&&B0 p.2)=true then(Bs a b,0)else(0,6):=by unfold C6;rw[dK λh=>h h1,dK h2]
   have hm:=LC a b 0;have BS:(a.zip b).length=a.length:=by simp;omega
   refine Lp.foldO (a.zip b) (0,0) GK 0 (by omega) ?_ ?_
   ·intro i t R e e2 hf ht A9 Bk;have hb:=LD ht;rw[BS]at e e2;rw[cD e (by omega)]at A9 Bk;simp only[eM,BS]at hb;simp only[dL e2,dP,dV];refine⟨⟨by omega,by omega⟩,λh=>⟨h,h,by omega,by omega⟩,λh=>⟨h,trivial⟩,λh=>⟨h,trivial⟩,λh=>by rw[h];rfl,λh=>⟨h,h,by omega,by omega⟩,λh=>⟨h,trivial⟩,λh=>⟨h,trivial⟩,λh=>by rw[h];rfl,?_⟩;have X0:( !BF (a.getD i 0)||decide (b.getD i 0< -4294967296)||decide (4294967296<b.getD i 0))=!(BF (a.getD i 0)&&B0 (b.getD i 0)):=by rw[Bool.or_assoc,RT,Bool.not_and]
    rw[X0];cases hok:BF (a.getD i 0)&&B0 (b.getD i 0)with
    |false=>
     have h3:=Bk (dK (by simp only;rw[hok];simp));rw[hm]at h3;simp only[kW,dV];rw[hd];split at h3;·cases h3
     ·rename_i h4;rw[dK h4]|true=>simp only[fY,dN];have h3:=A9 _ (dO hok);simp only[eP,IG,ND]at hok;have h5:=PG (n:=1048576) (m:=4294967296) (by omega) (by omega) hok.1.1 hok.1.2 hok.2.1 hok.2.2;generalize a.getD i 0*b.getD i 0=v at*;exact⟨⟨by omega,by omega⟩,⟨by omega,by omega⟩,⟨by omega,by omega⟩,⟨by omega,by omega⟩,hf,h3⟩
   ·intro t R ht;rw[BS];simp only[eB,eK,dN];rw[hm]at ht;rw[hd];split at ht;·rename_i h4;rw[dO h4];cases ht;simp
    ·cases ht
 ·rw[bne_iff_ne.2 (show((a.length:Nat):Int)≠((b.length:Nat):Int)by omega)];simp[C6,h1]
theorem WY{a b:List Int}(h:(C6 a b).2=0):-54043195528445952≤(C6 a b).1∧(C6 a b).1≤54043195528445952:=by
 unfold C6 at h⊢;split at h;·cases h
 ·split at h;·cases h
  ·split at h;·rename_i h1 h2 h3;rw[dK h1,dK h2,dO h3];have hm:=LC a b 0;rw[dO h3]at hm;have :=LD hm;simp only[mQ]at this;simp only;omega
   ·cases h
theorem DQ.spec(l:BH)(p:List Int):DQ.wp l p λr=>r=DQ.fn (l,p,()):=by have hfn:DQ.fn (l,p,())=Ef l p:=rfl;simp only[DQ.wp,hfn,CI.fn,DR.fn];cases hv:Az l with|false=>simp[Ef,hv]|true=>
 by_cases h:(C6 l.1 p).2=0;·have :=WY h;have h2:=(Az.b hv).2.2;simp only[h,eI,dN,fY];refine⟨⟨by omega,by omega⟩,?_⟩;simp[Ef,hv,h]
 ·simp only[bne_iff_ne.2 h,dV,fY,dN];simp[Ef,hv,h]
theorem Dg.spec(c:G)(p:List Int):Dg.wp c p λr=>r=Dg.fn (c,p,()):=by have hfn:Dg.fn (c,p,())=EG c p:=rfl;simp only[Dg.wp,hfn,Ay.fn,DQ.fn];cases hv:AG c with|false=>simp[EG,hv]|true=>
 by_cases h:(Ef c.2.2 p).2=0
 ·simp only[h,eI,dN,fY];have hk:=AG.kind hv;by_cases k0:c.1=0;·simp[EG,hv,h,Hu,k0]
  ·by_cases k1:c.1=1;·simp[EG,hv,h,Hu,k1]
   ·simp only[beq_eq_false_iff_ne.2 k0,beq_eq_false_iff_ne.2 k1,dN];refine⟨by omega,?_⟩;simp[EG,hv,h,Hu,k0,k1]
 ·simp only[bne_iff_ne.2 h,dV,fY,dN];simp[EG,hv,h]
theorem D4.spec(c:G)(p:List Int):D4.wp c p λr=>r=D4.fn (c,p,()):=rfl
theorem D3.spec(q:List G)(p:List Int):D3.wp q p λr=>r=D3.fn (q,p,()):=⟨λ_ _=>trivial,rfl⟩
theorem DY.spec(s:Ag)(p:List Int)(hl:p.length≤9223372036854775807):DY.wp s p λr=>r=DY.fn (s,p,()):=by have hfn:DY.fn (s,p,())=Du s p:=rfl;simp only[DY.wp,hfn,Ap.fn];cases hv:Ar s with|false=>simp[Du,hv]|true=>
 simp only[fY,dN];by_cases h1:((p.length:Nat):Int)=s.1
 ·simp only[h1,eI,dN];rw[←h1];refine Lp.all p 0 B0 hl ?_ ?_;·intro i R e e2 hf h2 h3;simp only[dL e2,dP,dV];refine⟨⟨by omega,by omega⟩,λh=>⟨h,trivial⟩,λh=>by rw[h];rfl,?_⟩;have hc:(decide (p.getD i 0< -4294967296)||decide (4294967296<p.getD i 0))=!B0 (p.getD i 0):=RT _;rw[hc];cases hok:B0 (p.getD i 0)with|true=>exact⟨hf,h2 hok⟩|false=>have :=h3 hok;simp[Du,hv,h1,this]
  ·intro R h2;simp only[eB,eK,dN];refine⟨λ_ _=>trivial,?_⟩;simp[Du,hv,h1,h2]
 ·simp only[bne_iff_ne.2 h1,dV];simp[Du,hv,h1]
def Re(p:List G)(n:Nat):Prop:=∀c∈p,c.2.2.1.length=n
abbrev Ce.fn(x:BH×List Int×Unit):Int:=x.1.2+Bs x.1.1 x.2.1
def Mz(c:G)(p:List Int):Prop:=AG c=true∧c.2.2.1.length=p.length∧∀n∈p,B0 n=true
abbrev Ce.pre(x:BH×List Int×Unit):Prop:=Az x.1=true∧x.1.1.length=x.2.1.length∧∀n∈x.2.1,B0 n=true
def J9(c:G)(p:List Int):Bool:=Hu c (c.2.2.2+Bs c.2.2.1 p)
abbrev CJ.fn(x:G×List Int×Unit):Bool:=J9 x.1 x.2.1
abbrev CJ.pre(x:G×List Int×Unit):Prop:=Mz x.1 x.2.1
def ID(m:Int)(l:List Ag):Bool:=l.all λs=>s.2.all λp=>decide ((p.length:Int)≤m)
def IE(l:List Ag):Int:=l.foldl (λn s=>IntKind.wrap .i64 (n+(s.2.length:Int))) 0
abbrev BC.fn(x:Int×Int×List Ag×Unit):Bool:=ID x.2.1 x.2.2.1&&decide (IE x.2.2.1≤x.1)
abbrev A4.fn(x:Unit):Bool:=true
set_option maxRecDepth 4000
def Ce.wp(x0:BH)(x1:List Int)(Q:Int→Prop):Prop:=Lp (σ:=Int×Int) (λy3 R3=>let v0:=x0.1.getD y3.1.toNat 0;let v1:=x1.getD y3.1.toNat 0;cond (decide (y3.1<x0.1.length)) ((0≤y3.1∧y3.1<x0.1.length)∧(0≤y3.1∧y3.1<x1.length)∧AD .i64 (v0*v1)∧AD .i64 (y3.2+v0*v1)∧AD .i64 (y3.1+1)∧R3 ( y3.1+1,y3.2+v0*v1)) (Q y3.2)) (0,x0.2)
def CJ.wp(x0:G)(x1:List Int)(Q:Bool→Prop):Prop:=let v0:=Ce.fn (x0.2.2,(x1,()));Ce.pre (x0.2.2,(x1,()))∧cond (x0.1==0) (Q (decide (0≤v0))) (cond (x0.1==1) (Q (v0==0)) (x0.2.1≠0∧Q (Int.tmod v0 x0.2.1==0)))
def BC.wp(x0:Int)(x1:Int)(x2:List (Int×List (List G)))(Q:Bool→Prop):Prop:=Lp (σ:=Int×Int) (λy4 R4=>let v0:=x2.getD y4.1.toNat (0,([]:List (List G)));cond (decide (y4.1<x2.length)) ((0≤y4.1∧y4.1<x2.length)∧Lp (σ:=Int) (λy6 R6=>cond (decide (y6<v0.2.length)) ((0≤y6∧y6<v0.2.length)∧cond (decide (x1<((List.length (v0.2.getD y6.toNat ([]:List G)):Nat):Int))) (Q false) (R6 (IntKind.wrap .i64 (y6+1)))) (R4 ( IntKind.wrap .i64 (y4.1+1),IntKind.wrap .i64 (y4.2+v0.2.length)))) 0) (Q (decide (y4.2≤x0)))) (0,0)
def A4.wp(Q:Bool→Prop):Prop:=let v0:=CZ.fn (1,(0,()));let v1:=CZ.fn (-1,(5,()));let v3:=CZ.fn (-1,(3,()));let v4:=DZ.fn ((1,[[v0,v1]]),((1,[[CZ.fn (1,(-2,())),v3]]),()));let v8:=Cf.fn (v4.1,((1,[[v1,CZ.fn (1,(-4,()))],[CZ.fn (-1,(1,())),v0]]),()));let v10:=Be.fn ((1,[[CZ.fn (1,(-3,())),v3]]),());((v4.2==0)=true→(v4.2==0)=true∧(v4.2==0)=true∧True)∧((v4.2==0)=true→(v4.2==0)=true∧(v4.2==0)=true∧True)∧((v4.2==0)=true→(v4.2==0)=true∧(v4.2==0)=true∧True)∧((v4.2==0)=true→(v4.2==0)=true∧True)∧((v4.2==0)=true→(v4.2==0)=true∧(v4.2==0)=true∧True)∧((v4.2==0)=true→(v4.2==0)=true)∧(( v4.2==0&&v8)=true→( v4.2==0&&v8)=true∧True)∧(( v4.2==0&&v8)=true→( v4.2==0&&v8)=true)∧(( v4.2==0&&v8&&v10.2==0)=true→( v4.2==0&&v8&&v10.2==0)=true∧True)∧(( v4.2==0&&v8&&v10.2==0)=true→( v4.2==0&&v8&&v10.2==0)=true∧True)∧(( v4.2==0&&v8&&v10.2==0)=true→( v4.2==0&&v8&&v10.2==0)=true∧True)∧(( v4.2==0&&v8&&v10.2==0)=true→( v4.2==0&&v8&&v10.2==0)=true∧( v4.2==0&&v8&&v10.2==0)=true∧True)∧(( v4.2==0&&v8&&v10.2==0)=true→( v4.2==0&&v8&&v10.2==0)=true)∧Q ( v4.2==0&&v8&&v10.2==0&&Cf.fn (v10.1,((1,[[(1,(0,([1],-3)))]]),())))
theorem ZT{α:Type}{l:List α}{d x:α}(h:x∈l):∃i,i<l.length∧l.getD i d=x:=by obtain⟨i,hi,rfl⟩:=List.mem_iff_getElem.1 h;exact⟨i,hi,B2 hi⟩
theorem Ar.D{s:Ag}(h:Ar s=true){p:List G}(hp:p∈s.2):Bq p∧Re p s.1.toNat:=⟨Ar.B h hp,λc hc=>by obtain⟨h0,_,_,h4⟩:=Ar.b h;have :=((h4 p hp).2 c hc).2;omega⟩
theorem Wb{a b:List Int}(ha:∀n∈a,BF n=true)(hb:∀n∈b,B0 n=true)(s:Int):(a.zip b).foldlM GK s=some (s+Bs a b):=by rw[LC,dO];rw[gT];rintro⟨x,y⟩h;rw[ha x (jJ h).1,hb y (jJ h).2];rfl
theorem WZ{a b:List Int}(ha:∀n∈a,BF n=true)(hb:∀n∈b,B0 n=true):-(4503599627370496*(a.length:Int))≤Bs a b∧Bs a b≤4503599627370496*(a.length:Int):=by have :=LD (Wb ha hb 0);simp only[mQ]at this;omega
theorem Wa{a b:List Int}{i:Nat}(h:i<a.length)(h2:i<b.length):Bs (a.take (i+1)) (b.take (i+1))=Bs (a.take i) (b.take i)+a.getD i 0*b.getD i 0:=by
 rw[DE 0 h,DE 0 h2];have key:∀(u v:List Int)(x y:Int),u.length=v.length→Bs (u++[x]) (v++[y])=Bs u v+x*y:=by intro u;induction u with
  |nil=>intro v x y h;cases v with|nil=>simp[Bs]|cons _ _=>simp at h
  |cons p u ih=>intro v x y h;cases v with|nil=>simp at h|cons q v=>simp only[gE,Bs];rw[ih v x y (by simpa using h)];omega
 exact key _ _ _ _ (by simp;omega)
theorem Ce.spec(l:BH)(p:List Int)(hp:Ce.pre (l,p,())):Ce.wp l p λr=>r=Ce.fn (l,p,()):=by
 obtain⟨hv,hl,hc⟩:=hp;simp only at hv hl hc;obtain⟨h1,h2,h3⟩:=Az.b hv;have hfn:Ce.fn (l,p,())=l.2+Bs l.1 p:=rfl;have YB:∀n∈l.1,BF n=true:=λn hn=>IG.2 (h2 n hn);simp only[Ce.wp,hfn];refine Lp.iter l.1.length (λi y=>y=((i:Int),l.2+Bs (l.1.take i) (p.take i))) (by simp[Bs]) ?_;rintro i y hle rfl R hR;by_cases e:i<l.1.length
 ·have e2:i<p.length:=by omega
  have hb:=WZ (a:=l.1.take i) (b:=p.take i) (λn hn=>YB n (fX hn)) λn hn=>hc n (fX hn);have AM:(l.1.take i).length=i:=by simp;omega
  rw[AM]at hb;have hx:=h2 _ (BQ (d:=0) e);have hy:=ND.1 (hc _ (BQ (d:=0) e2));have hm:=PG (n:=1048576) (m:=4294967296) (by omega) (by omega) hx.1 hx.2 hy.1 hy.2;have ht:=Wa e e2;simp only[dL (show(i:Int)<(l.1.length:Int)by omega),dP,dV];generalize l.1.getD i 0*p.getD i 0=v at*;refine⟨⟨by omega,by omega⟩,⟨by omega,by omega⟩,⟨by omega,by omega⟩,⟨by omega,by omega⟩,⟨by omega,by omega⟩,hR e _ ?_⟩;rw[ht,Int.add_assoc];rfl
 ·have :i=l.1.length:=by omega
  subst this;simp only[eB,eK,dN,eD];rw[hl,eD]
theorem CJ.spec(c:G)(p:List Int)(hp:CJ.pre (c,p,())):CJ.wp c p λr=>r=CJ.fn (c,p,()):=by
 obtain⟨hv,hl,hc⟩:=hp;simp only at hv hl hc;have hk:=AG.kind hv;have hfn:CJ.fn (c,p,())=Hu c (c.2.2.2+Bs c.2.2.1 p):=rfl;simp only[CJ.wp,Ce.fn,hfn];refine⟨⟨AG.lin hv,hl,hc⟩,?_⟩;unfold Hu;by_cases k0:c.1=0;·rw[dO k0];simp only[k0,hZ,dV]
 ·by_cases k1:c.1=1;·rw[dK k0,dO k1];simp only[k1,show((1:Int)==0)=false from rfl,hZ,dV,dN]
  ·rw[dK k0,dK k1];simp only[beq_eq_false_iff_ne.2 k0,beq_eq_false_iff_ne.2 k1,dN];exact⟨by omega,trivial⟩
theorem Rg{c:G}{p:List Int}(h:Mz c p):EG c p=(J9 c p,0):=by
 obtain⟨hv,hl,hc⟩:=h;obtain⟨h1,h2,h3⟩:=Az.b (AG.lin hv);have hd:C6 c.2.2.1 p=(Bs c.2.2.1 p,0):=by unfold C6;rw[dK (by omega),dK (by omega),dO];rw[gT];rintro⟨x,y⟩h;rw[IG.2 (h2 x (jJ h).1),hc y (jJ h).2];rfl
 have ha:Ef c.2.2 p=(c.2.2.2+Bs c.2.2.1 p,0):=by simp[Ef,AG.lin hv,hd]
 simp[EG,hv,ha,J9]
theorem VR{n:Int}(h1:-9223372036854775808≤n)(h2:n≤9223372036854775807):IntKind.wrap .i64 n=n:=by simp[IntKind.wrap,IntKind.bits,IntKind.signed];omega
theorem XF(l:List Ag)(s:Ag):IE (l++[s])=IntKind.wrap .i64 (IE l+(s.2.length:Int)):=by simp[IE]
theorem BC.spec(n m:Int)(l:List Ag)(hl:l.length≤9223372036854775807)(hs:∀s∈l,s.2.length≤9223372036854775807):BC.wp n m l λr=>r=BC.fn (n,m,l,()):=by
 have hfn:BC.fn (n,m,l,())=(ID m l&&decide (IE l≤n)):=rfl;simp only[BC.wp,hfn];refine Lp.iter l.length (λi y=>y=((i:Int),IE (l.take i))∧ID m (l.take i)=true) ⟨rfl,rfl⟩ ?_;rintro i y hle⟨rfl,hf⟩R hR;by_cases e:i<l.length
 ·have EX:=DE ((0,[]):Ag) e;have FP:=hs _ (BQ (d:=((0,[]):Ag)) e);simp only[dL (show(i:Int)<(l.length:Int)by omega),dP,dV];refine⟨⟨by omega,by omega⟩,?_⟩;have hall:ID m l=true→∀p∈(l.getD i (0,[])).2,(p.length:Int)≤m:=λh p hp=>by have :=List.all_eq_true.1 h _ (BQ (d:=((0,[]):Ag)) e);have :=List.all_eq_true.1 this p hp;simpa using this
  refine Lp.iter (l.getD i (0,[])).2.length (λj y=>y=(j:Int)∧∀k,k<j→((((l.getD i (0,[])).2.getD k []).length:Nat):Int)≤m) ⟨rfl,λk hk=>absurd hk (by omega)⟩ ?_;rintro j y YF⟨rfl,hj⟩R' hR';by_cases e2:j<(l.getD i (0,[])).2.length
  ·simp only[dL (show(j:Int)<((l.getD i (0,[])).2.length:Int)by omega),dP,dV];refine⟨⟨by omega,by omega⟩,?_⟩;by_cases h1:m<((((l.getD i (0,[])).2.getD j []).length:Nat):Int);·simp only[dL h1,dV];cases Jk:ID m l with|false=>rfl|true=>have :=hall Jk _ (BQ (d:=[]) e2);omega
   ·simp only[dR h1,dN];rw[VR (by omega) (by omega)];refine hR' e2 _ ⟨rfl,λk hk=>?_⟩;by_cases YG:k=j;·subst YG;omega
    ·exact hj k (by omega)
  ·have :j=(l.getD i (0,[])).2.length:=by omega
   subst this;simp only[eB,eK,dN];rw[VR (n:=(i:Int)+1) (by omega) (by omega)];refine hR e _ ⟨?_,?_⟩;·rw[EX,XF];rfl
   ·rw[EX];unfold ID at hf⊢;rw[List.all_append,hf];simp only[List.all_cons,List.all_nil,Bool.and_true,jC,gT,gJ];intro p hp;obtain⟨k,hk,rfl⟩:=ZT (d:=[]) hp;exact hj k hk
 ·have :i=l.length:=by omega
  subst this;rw[eD]at hf⊢;simp only[eB,eK,dN,hf,jC]
theorem V5:Gk (1,[[(0,0,[1],0),(0,0,[-1],5)]]) (1,[[(0,0,[1],-2),(0,0,[-1],3)]])=((1,[[(0,0,[-1],5),(0,0,[1],-4)],[(0,0,[-1],1),(0,0,[1],0)]]),0):=by kernel_rfl
theorem V6:B6 (1,[[(0,0,[1],-3),(0,0,[-1],3)]])=((1,[[(1,0,[1],-3)]]),0):=by kernel_rfl
theorem A4.spec:A4.wp λr=>r=A4.fn ():=by simp only[A4.wp,DZ.fn,Be.fn,CZ.fn,Cf.fn,V5,V6];simp
theorem Tk(a:Ag×Int):Ca.fn (a.1,a.2,a.1,a.2,())=true:=by simp[Ca.fn]
theorem BL.spec(x:Ag)(hl:x.2.length≤9223372036854775807):BL.wp x λr=>r=BL.fn (x,()):=by
 obtain⟨n,ps⟩:=x;simp only[BL.wp,BL.fn,DW.fn];have hg:∀b:Bool,b=true→b=true∧True:=λb h=>⟨h,trivial⟩;have hn:∀b:Bool,b=false→(!b)=true:=λb h=>by rw[h];rfl
 refine⟨hg _,hg _,hn _,hg _,hg _,hg _,hn _,?_⟩;by_cases h1:n<0;·simp[h1,Ar,show¬0≤n by omega]
 by_cases h2:12<n;·simp[h1,h2,Ar,show¬n≤12 by omega]
 by_cases h3:(400:Int)<(ps.length:Int);·simp only[dL h3,iH,dV];simp[Ar,show¬(ps.length:Int)≤400 by omega]
 rw[dR h1,dR h2,dR h3];have hv:∀b,ps.all (λp=>decide ((p.length:Int)≤96)&&F4 p n)=b→Ar (n,ps)=b:=λb h=>by simp only[Ar,h];rw[dL (show(0:Int)≤n by omega),dL (show n≤12 by omega),dL (show(ps.length:Int)≤400 by omega)];rfl
 refine Lp.all ps [] (λp=>decide ((p.length:Int)≤96)&&F4 p n) hl (λi R hi hi' hf ht DK=>?_) λR h=>?_
 ·simp only[dL hi',dP];refine⟨⟨by omega,hi'⟩,?_⟩;by_cases h4:(96:Int)<((ps.getD i []).length:Int);·simp only[dL h4,dV];exact(hv false (DK (by rw[dR (show¬((ps.getD i []).length:Int)≤96 by omega)];rfl))).symm
  ·simp only[dR h4,dN];have h5:decide (((ps.getD i []).length:Int)≤96)=true:=dL (by omega);rw[h5,jC]at ht DK;refine Lp.all (ps.getD i []) Z (λc=>AG c&&(c.2.2.1.length:Int)==n) (by omega) (λj R' hj hj' hf' ht' IS=>?_) λR' h'=>?_
   ·simp only[dL hj',dP,dV];refine⟨⟨by omega,by omega⟩,hg _,hg _,hg _,hg _,λh=>⟨h,h,trivial⟩,λh=>by rw[h];rfl,?_⟩;have hb:( !AG ((ps.getD i []).getD j Z)||(((ps.getD i []).getD j Z).2.2.1.length:Int)!=n)=!(AG ((ps.getD i []).getD j Z)&&(((ps.getD i []).getD j Z).2.2.1.length:Int)==n):=by rw[Bool.not_and];rfl
    rw[hb];by_cases h6:(AG ((ps.getD i []).getD j Z)&&(((ps.getD i []).getD j Z).2.2.1.length:Int)==n)=true;·have :=ht' h6;rw[h6];exact⟨hf',this⟩
    ·rw[jD]at h6;have :=IS h6;rw[h6];exact(hv false (DK this)).symm
   ·simp only[eB,eK,dN];exact⟨hf,ht h'⟩
 ·simp only[eB,eK,dN];exact(hv true h).symm
def Ey(p:List G)(x:List Int):Bool:=p.all λc=>J9 c x
theorem Tc{p:List G}{x:List Int}:Ey p x=true↔∀c∈p,J9 c x=true:=by simp[Ey]
theorem Y5(p q:List G)(x:List Int):Ey (p++q) x=(Ey p x&&Ey q x):=by simp[Ey]
def FV(l:List (List G))(x:List Int):Bool:=l.any λp=>Ey p x
theorem Y8{l:List (List G)}{x:List Int}:FV l x=true↔∃p∈l,Ey p x=true:=by simp[FV]
theorem Y7(a b:List (List G))(x:List Int):FV (a++b) x=(FV a x||FV b x):=by simp[FV]
def PD(n:Nat)(l:List (List G)):Prop:=PP l∧∀p∈l,Re p n
theorem Qb{n:Nat}{l:List (List G)}(h:PD n l){x:List Int}(hx:x.length=n)(hc:x.all B0=true):∀p∈l,∀c∈p,Mz c x:=λp hp c GV=>⟨(h.1.2 p hp).2 c GV,by rw[h.2 p hp c GV,hx],List.all_eq_true.1 hc⟩
theorem Uv{s:Ag}(h:Ar s=true):PD s.1.toNat s.2:=by have hb:=Ar.b h;exact⟨⟨hb.2.2.1,λp hp=>Ar.piece h hp⟩,λp hp=>(Ar.D h hp).2⟩
theorem Xo{s:Ag}{x:List Int}(h:(Du s x).2=0):Ar s=true∧x.length=s.1.toNat∧x.all B0=true∧(Du s x).1=FV s.2 x:=by
 unfold Du at h⊢;split at h;·cases h
 ·rename_i h0;split at h;·cases h
  ·rename_i h1;split at h;·cases h
   ·rename_i h2;have hv:Ar s=true:=by simpa using h0
    have hl:x.length=s.1.toNat:=by omega
    have hc:x.all B0=true:=by simpa using h2
    refine⟨hv,hl,hc,?_⟩;rw[dK h0,dK h1,dK h2];show(s.2.any λq=>!q.any λc=>!(EG c x).1)=_;rw[Bool.eq_iff_iff,List.any_eq_true,Y8];have hat:=Qb (Uv hv) hl hc;constructor;·rintro⟨p,hp,h⟩;refine⟨p,hp,Tc.2 λc GV=>?_⟩;simp only[lV,lX]at h;have :=h c GV;rw[Rg (hat p hp c GV)]at this;simpa using this
    ·rintro⟨p,hp,h⟩;refine⟨p,hp,?_⟩;simp only[lV,lX];intro c GV;rw[Rg (hat p hp c GV)];simpa using Tc.1 h c GV
def Cz.wp(x0:Int)(Q:(Int×List (List G))×Int→Prop):Prop:=((! decide (x0<0))=true→(! decide (x0<0))=true∧True)∧(decide (x0<0)=false→(! decide (x0<0))=true)∧cond (decide (x0<0)||decide (12<x0)) (Q ((0,([]:List (List G))),6)) (Q ((x0,[([]:List G)]),0))
def CK.wp(x0:Int)(Q:(Int×List (List G))×Int→Prop):Prop:=((! decide (x0<0))=true→(! decide (x0<0))=true∧True)∧(decide (x0<0)=false→(! decide (x0<0))=true)∧cond (decide (x0<0)||decide (12<x0)) (Q ((0,([]:List (List G))),6)) (Q ((x0,([]:List (List G))),0))
def Cy.wp(x0:Int)(Q:(Int×List (List G))×Int→Prop):Prop:=((! decide (x0<0))=true→(! decide (x0<0))=true∧True)∧(decide (x0<0)=false→(! decide (x0<0))=true)∧cond (decide (x0<0)||decide (12<x0)) (Q ((0,([]:List (List G))),6)) (Q ((x0,([]:List (List G))),0))
def law04_SetMakes.wp(x0:Int×List (List G))(x1:Int)(Q:Bool→Prop):Prop:=let v1:=Ca.fn ((CL.fn (x1,())).1,((CL.fn (x1,())).2,((Cz.fn (x1,())).1,((Cz.fn (x1,())).2,()))));let v2:=Ca.fn ((CK.fn (x1,())).1,((CK.fn (x1,())).2,((Cy.fn (x1,())).1,((Cy.fn (x1,())).2,()))));cond (! BC.fn (402,(98,([x0],())))) (Q (A4.fn ())) (((Ap.fn (x0,())==BL.fn (x0,()))=true→(Ap.fn (x0,())==BL.fn (x0,()))=true∧(Ap.fn (x0,())==BL.fn (x0,()))=true∧(Ap.fn (x0,())==BL.fn (x0,()))=true∧(Ap.fn (x0,())==BL.fn (x0,()))=true∧True)∧((Ap.fn (x0,())==BL.fn (x0,()))=true→(Ap.fn (x0,())==BL.fn (x0,()))=true)∧(( Ap.fn (x0,())==BL.fn (x0,())&&v1)=true→( Ap.fn (x0,())==BL.fn (x0,())&&v1)=true∧( Ap.fn (x0,())==BL.fn (x0,())&&v1)=true∧( Ap.fn (x0,())==BL.fn (x0,())&&v1)=true∧( Ap.fn (x0,())==BL.fn (x0,())&&v1)=true∧True)∧(( Ap.fn (x0,())==BL.fn (x0,())&&v1)=true→( Ap.fn (x0,())==BL.fn (x0,())&&v1)=true)∧(( Ap.fn (x0,())==BL.fn (x0,())&&v1&&v2)=true→( Ap.fn (x0,())==BL.fn (x0,())&&v1&&v2)=true)∧Q ( Ap.fn (x0,())==BL.fn (x0,())&&v1&&v2&&A4.fn ()))
def law04_SetHolds.wp(x0:Int×List (List G))(x1:List Int)(Q:Bool→Prop):Prop:=let v1:=DY.fn (x0,(x1,()));cond (! BC.fn (402,(98,([x0],())))) (Q (A4.fn ())) (cond (v1.2 !=0) (((!v1.1)=true→(!v1.1)=true)∧Q ( !v1.1&&A4.fn ())) (Lp (σ:=Int×Bool) (λy3 R3=>let v2:=x0.2.getD y3.1.toNat ([]:List G);cond (decide (y3.1<x0.2.length)) ((0≤y3.1∧y3.1<x0.2.length)∧Lp (σ:=Int×Bool) (λy5 R5=>let v3:=v2.getD y5.1.toNat Z;cond (decide (y5.1<v2.length)) ((0≤y5.1∧y5.1<v2.length)∧(y5.2=true→y5.2=true∧y5.2=true∧CJ.pre (v3,(x1,())))∧(y5.2=true→y5.2=true)∧AD .i64 (y5.1+1)∧R5 ( y5.1+1,y5.2&&CJ.fn (v3,(x1,())))) ((y3.2=false→(!y3.2)=true)∧AD .i64 (y3.1+1)∧R3 ( y3.1+1,y3.2||y5.2))) (0,true)) (((v1.1==y3.2)=true→(v1.1==y3.2)=true)∧Q ( v1.1==y3.2&&A4.fn ()))) (0,false)))
theorem Cz.spec(n:Int):Cz.wp n λr=>r=Cz.fn (n,()):=by unfold Cz.wp Cz.fn CL.fn;by_cases h0:n<0<;>by_cases h1:12<n<;>simp[h0,h1]
theorem CK.spec(n:Int):CK.wp n λr=>r=CK.fn (n,()):=by unfold CK.wp CK.fn;by_cases h0:n<0<;>by_cases h1:12<n<;>simp[h0,h1]
theorem Cy.spec(n:Int):Cy.wp n λr=>r=Cy.fn (n,()):=by unfold Cy.wp Cy.fn CK.fn;by_cases h0:n<0<;>by_cases h1:12<n<;>simp[h0,h1]
theorem law04_SetMakes.spec(s:Ag)(n:Int):law04_SetMakes.wp s n λr=>r=true:=by
 unfold law04_SetMakes.wp;have e1:Ca.fn ((CL.fn (n,())).1,((CL.fn (n,())).2,((Cz.fn (n,())).1,((Cz.fn (n,())).2,()))))=true:=Tk (CL.fn (n,()));have e2:Ca.fn ((CK.fn (n,())).1,((CK.fn (n,())).2,((Cy.fn (n,())).1,((Cy.fn (n,())).2,()))))=true:=Tk (CK.fn (n,()));have e3:(Ap.fn (s,())==BL.fn (s,()))=true:=by simp[Ap.fn,BL.fn]
 simp only[e1,e2,e3,A4.fn];cases BC.fn ((402:Int),((98:Int),([s],())))<;>simp
theorem law04_SetHolds.spec(s:Ag)(x:List Int):law04_SetHolds.wp s x λr=>r=true:=by unfold law04_SetHolds.wp;have eH:DY.fn (s,(x,()))=Du s x:=rfl;simp only[eH,A4.fn];cases BC.fn ((402:Int),((98:Int),([s],())))with|false=>simp|true=>
 simp only[fY,dN];by_cases h0:(Du s x).2=0
 ·obtain⟨hv,hl,hc,Fs⟩:=Xo h0;simp only[h0,eI,dN,Fs];have hat:=Qb (Uv hv) hl hc;have hlen:=(Ar.b hv).2.2.1;refine Lp.iter s.2.length (λi z=>z=((i:Int),FV (s.2.take i) x)) (by simp[FV]) ?_;rintro i z hi rfl R hR;by_cases e:i<s.2.length
  ·simp only[dL (show(i:Int)<(s.2.length:Int)by omega),dP,dV];refine⟨⟨by omega,by omega⟩,?_⟩;have hm:s.2.getD i []∈s.2:=BQ e;have dE:=(Ar.piece hv hm).1;refine Lp.iter (s.2.getD i []).length (λj z=>z=((j:Int),Ey ((s.2.getD i []).take j) x)) (by simp[Ey]) ?_;rintro j z hj rfl R2 Bk;by_cases e2:j<(s.2.getD i []).length;·simp only[dL (show(j:Int)<((s.2.getD i []).length:Int)by omega),dP,dV];have hp:CJ.pre ((s.2.getD i []).getD j Z,(x,())):=hat _ hm _ (BQ e2);refine⟨⟨by omega,by omega⟩,λh=>⟨h,h,hp⟩,λh=>h,⟨by omega,by omega⟩,Bk e2 _ ?_⟩;rw[DE Z e2,Y5];simp[Ey,CJ.fn]
   ·have he:j=(s.2.getD i []).length:=by omega
    subst he;simp only[dR (show¬((s.2.getD i []).length:Int)<((s.2.getD i []).length:Int)by omega),dN,eD];refine⟨λh=>by rw[h];rfl,⟨by omega,by omega⟩,hR e _ ?_⟩;rw[DE [] e,Y7];simp[FV]
  ·have he:i=s.2.length:=by omega
   subst he;simp only[dR (show¬(s.2.length:Int)<(s.2.length:Int)by omega),dN,eD];simp
 ·have :Du s x=(false,(Du s x).2):=by
   unfold Du at h0⊢;split;·rfl
   ·split;·rfl
    ·split;·rfl
     ·rename_i a b c;simp[a,b,c]at h0
  rw[this];simp[h0]
end Go.Proofs.YtldikbpclaeajaaDoor
namespace Go.Proofs.YtldikbpclaeajaaDoor
open Go Go.ChangeAt Go.ChangeShapes Go.RowKit Go.WideShapes
set_option linter.unusedSimpArgs false
set_option linter.unusedVariables false
section
def Wf:(T:Ty)→T.den→Prop|.int k,n=>(Lit.int k n).wf=true|.bool,_=>True|.str,s=>ByteArray.size s≤maxLen|.sl T,l=>List.length (α:=T.den) l≤maxLen∧∀x∈(l:List T.den),Wf T x|.pair a b,x=>Wf a x.1∧Wf b x.2|.unit,_=>True
def Hy(P:Program)(F:TypeId→Ty→Prop):Nat→List Field→Ty→Prop|o,[f],T=>f.offset=o∧P.cellsOf f.type=T.size∧F f.type T|o,f::fs,.pair A B=>f.offset=o∧P.cellsOf f.type=A.size∧F f.type A∧Hy P F (o+A.size) fs B|_,_,_=>False
def FitT(P:Program):Nat→TypeId→Ty→Prop|0,_,_=>False|n+1,t,T=>(match T with|.int k=>P.underlying t=some (.int k)|.bool=>P.underlying t=some .bool|.str=>P.underlying t=some .string|.sl T=>∃e,P.underlying t=some (.slice e)∧P.cellsOf e=T.size∧0<T.size∧FitT P n e T|_=>False)∨∃fs,P.underlying t=some (.struct fs)∧P.cellsOf t=T.size∧Hy P (FitT P n) 0 fs.toList T
section
variable {H : Type} {enc : TypeId × Value → H} {P : Program} {W : World} {held : Bool}
abbrev F8(W:World):Nat→Prop:=λb=>b<W.heap.size
theorem T8{α:Type}{p:Nat→α→Prop}:∀n:Nat,(∀i,i<n→∃y,p i y)→∃l:List α,l.length=n∧∀i y,l[i]?=some y→p i y
 |0,_=>⟨[],rfl,λi y h=>by simp at h⟩|n+1,h=>by
  obtain⟨l,hl,hp⟩:=T8 n λi hi=>h i (by omega);obtain⟨y,hy⟩:=h n (by omega);refine⟨l++[y],by simp[hl],λi z hz=>?_⟩;by_cases e:i<l.length;·rw[fI e]at hz;exact hp i z hz
  ·rw[fH (by omega)]at hz;have :i=l.length:=by have :=(List.getElem?_eq_some_iff.1 hz).1;simp at this;omega
   subst this;simp at hz;subst hz;rw[hl];exact hy
theorem UT{F:TypeId→Ty→Prop}{m:Nat}(hF:∀t T,F t T→∀cs x,DataW.trod enc P W 0 (λ_=>true) held m t cs=some x→∃y:T.den,Al W (F8 W) T y cs∧Wf T y):∀{fs:List Field}{o:Nat}{T:Ty}{cs:List Value},Hy P F o fs T→(∀f∈fs,∃x,DataW.trod enc P W 0 (λ_=>true) held m f.type ((cs.drop f.offset).take (P.cellsOf f.type))=some x)→cs.length=o+T.size→∃y:T.den,Al W (F8 W) T y (cs.drop o)∧Wf T y
 |[],o,T,cs,h,_,_=>by unfold Hy at h;exact h.elim|[f],o,T,cs,h,hx,hl=>by
  have h':f.offset=o∧P.cellsOf f.type=T.size∧F f.type T:=by unfold Hy at h;exact h
  obtain⟨h1,h2,h3⟩:=h';obtain⟨x,hx⟩:=hx f (by simp);rw[h1,h2,gW (by rw[fG];omega)]at hx;exact hF _ _ h3 _ _ hx|f::g::fs,o,T,cs,h,hx,hl=>by
  cases T<;>unfold Hy at h<;>try exact h.elim
  rename_i A B;obtain⟨h1,h2,h3,h4⟩:=h;have hl':cs.length=o+A.size+B.size:=by rw[hl];simp only[Ty.size];omega
  obtain⟨b,hb,Yu⟩:=UT hF (cs:=cs) h4 (λf hf=>hx f (by simp[List.mem_cons.1 hf])) hl';obtain⟨x,hx⟩:=hx f (by simp);rw[h1,h2]at hx;obtain⟨a,ha,Yt⟩:=hF _ _ h3 _ _ hx;refine⟨(a,b),⟨_,_,?_,ha,hb⟩,Yt,Yu⟩;rw[←kX,gD]
theorem Q4{base:Nat}{a:Addr}{n:Nat}{cs:List Value}(h:W.cells? base a n=some cs)(hn:0<n):a.spot=none∧a.block<W.heap.size∧cs.length=n∧∀j u,cs[j]?=some u→W.cell? ⟨a.block,a.off+j,none⟩=some u:=by
 obtain⟨_,hl,hc⟩:=World.cells?_some h;have h0:=hc 0 hn;rw[dY (by omega:0<cs.length)]at h0;simp only[Addr.add,hP,World.cell?]at h0;have hs:a.spot=none∧a.block<W.heap.size:=by
  split at h0
  ·rename_i hb;refine⟨?_,(Array.getElem?_eq_some_iff.1 hb).1⟩;split at h0;·cases h0
   ·rename_i hs;simpa using hs
  ·cases h0
 refine⟨hs.1,hs.2,hl,λj u hj=>?_⟩;have FM:j<n:=by rw[←hl];exact(List.getElem?_eq_some_iff.1 hj).1
 rw[←hj,←hc j FM];obtain⟨b,off,sp⟩:=a;simp only at hs;rw[hs.1];unfold Addr.add;split;·rename_i e;subst e;rfl
 ·rfl
theorem ME:∀(n:Nat){t:TypeId}{T:Ty},FitT P n t T→∀(fuel:Nat)(cs:List Value)(x:DataW H×List MemPlace),DataW.trod enc P W 0 (λ_=>true) held fuel t cs=some x→∃y:T.den,Al W (F8 W) T y cs∧Wf T y
  |0,_,_,h,_,_,_,_=>h.elim|n+1,t,T,h,fuel,cs,x,hx=>by
    unfold FitT at h;rcases h with h|⟨fs,h1,h2,h3⟩;·cases T with
      |int k=>obtain⟨z,rfl,_,hw⟩:=DataW.trod_int h hx;exact⟨z,rfl,hw⟩|bool=>obtain⟨z,rfl,_⟩:=DataW.trod_bool h hx;exact⟨z,rfl,trivial⟩|str=>obtain⟨z,rfl,_,hw⟩:=DataW.trod_string h hx;exact⟨z,rfl,hw⟩|sl T=>
        obtain⟨e,h1,h2,h3,h4⟩:=h;rcases DataW.trod_slice h1 hx with⟨rfl,_⟩|⟨a,len,cap,elems,rest,m,_,rfl,_,_,hl,hm,hlen,Ss,_,_⟩;·exact⟨[],⟨none,0,rfl,⟨dT _,fW _⟩,λh=>absurd rfl h⟩,fW _,λx hx=>by cases hx⟩
        · have each:∀i,i<len→∃y:T.den,(a.block<W.heap.size∧(len≠0→a.spot=none)∧∃cs',Al W (F8 W) T y cs'∧∀j u,cs'[j]?=some u→W.cell? ⟨a.block,a.off+i*T.size+j,none⟩=some u)∧Wf T y:=by
            intro i hi;have h5:=Ss i hi;rw[dY (by omega:i<elems.length),eV]at h5;obtain⟨cs',h6,h7⟩:=h5;rw[h2]at h6;obtain⟨y,hy,hw⟩:=ME n h4 _ _ _ h7;obtain⟨k1,k2,k3,k4⟩:=Q4 h6 h3;have hb:(a.add (i*T.size)).block=a.block:=by unfold Addr.add;split<;>rfl
            have ho:(a.add (i*T.size)).off=a.off+i*T.size:=by
              unfold Addr.add;split;·rename_i e;rw[e];rfl
              ·rfl
            rw[hb,ho]at k4;rw[hb]at k2;refine⟨y,⟨k2,λ_=>?_,cs',hy,k4⟩,hw⟩;have SX:=Ss 0 (by omega);rw[dY (by omega:0<elems.length),eV]at SX;obtain⟨cs0,SY,_⟩:=SX;rw[h2]at SY;have :=(Q4 SY h3).1;simpa[Addr.add]using this
          obtain⟨l,FN,S3⟩:=T8 len each;refine⟨l,⟨some a,cap,by rw[FN],⟨by rw[FN];exact hl,hm⟩,λAU=>?_⟩,by show l.length≤maxLen;omega,λy hy=>?_⟩
          · have AW:0<len:=by rw[←FN];exact List.length_pos_iff.2 AU
            obtain⟨y0,⟨hb,hs,_⟩,_⟩:=each 0 AW;refine⟨a.block,a.off,?_,hb,λi x hi=>?_⟩;·have :=hs (by omega);obtain⟨b,off,sp⟩:=a;simp only at this;rw[this]
            ·obtain⟨⟨_,_,cs',h8,h9⟩,_⟩:=S3 i x hi;exact⟨cs',h8,h9⟩
          ·obtain⟨i,hi⟩:=hJ hy;exact(S3 i y hi).2|pair a b=>exact h.elim|unit=>exact h.elim
    ·obtain⟨xs,m,rfl,_,h4,h5,h6⟩:=DataW.trod_struct h1 hx;have :=UT (m:=m) (λt T hF cs x hx=>ME n hF m cs x hx) (cs:=cs) h3 (λf hf=>by
        obtain⟨i,hi⟩:=hJ hf;have hi':fs[i]?=some f:=by simpa using hi
        have :=h6 i f hi';have AM:i<xs.length:=by rw[h5];exact(Array.getElem?_eq_some_iff.1 hi').1
        exact⟨xs[i],by rw[this,dY AM]⟩) (by rw[fE,h4,h2]);simpa using this
def ZF:Ty→Bool|.pair _ _=>false|_=>true
def IB(W:World):AB:=⟨W,F8 W,λ_=>none⟩
theorem one_slice{r:Reach}{base:Nat}{t e:TypeId}{v:Value}(ht:P.underlying t=some (.slice e))(h:Value.okWide P W r base t v):v.cells=#[v]:=by obtain⟨a,l,c,rfl⟩:=okWide_slice ht h;rfl
theorem one_int{r:Reach}{base:Nat}{t:TypeId}{k:IntKind}{v:Value}(ht:P.underlying t=some (.int k))(h:Value.okWide P W r base t v):v.cells=#[v]:=by obtain⟨a,rfl⟩:=okWide_int ht h;rfl
theorem arg_plain{n:Nat}{t:TypeId}{T:Ty}{v:Value}{d:DataW H}{p:List MemPlace}(hf:FitT P n t T)(hp:ZF T=true)(h:DataW.Trod enc P W 0 (λ_=>true) held t v d p)(hv:v.cells=#[v]):∃y:T.den,N P (IB W) (D6 T y) v∧Wf T y:=by obtain⟨fuel,h⟩:=h;rw[hv]at h;obtain⟨y,hy,hw⟩:=ME n hf _ _ _ h;refine⟨y,?_,hw⟩;cases T<;>first|exact .d hy|(cases hp;done)
theorem arg_agg{n:Nat}{t:TypeId}{a b:Ty}{v:Value}{d:DataW H}{p:List MemPlace}(hf:FitT P n t (.pair a b))(h:DataW.Trod enc P W 0 (λ_=>true) held t v d p){fs:Array Field}{r:Reach}{base:Nat}(ht:P.underlying t=some (.struct fs))(hk:Value.okWide P W r base t v):∃y:(Ty.pair a b).den,N P (IB W) (D6 (.pair a b) y) v∧Wf (.pair a b) y:=by
 obtain⟨cs,rfl,_⟩:=okWide_struct ht hk;obtain⟨fuel,h⟩:=h;obtain⟨y,hy,hw⟩:=ME n hf _ _ _ h;have hr:=GP (P:=P) (E:=IB W) hy;refine⟨y,.agg ?_ λj hj=>?_,hw⟩;·have :=hr.1;simpa[Value.cells]using this
 ·have :=hr.2 j hj;simpa[Value.cells,dQ,dM]using this
theorem sok_of{g:Nat}(hg:P.globalNamed "internal/strconv.uint64pow10"=some g)(h:Lib.TabIs P W "internal/strconv.uint64pow10" .u64 Lib.pow10Tab):EO P W (F8 W):=by
 refine⟨λb hb=>hb,g,?_,λw' hw'=>?_⟩
 ·unfold Lib.TabIs World.var? at h;rw[hg]at h;simp only[hU]at h;split at h;·rename_i hb;exact(Array.getElem?_eq_some_iff.1 hb).1
  ·cases h
 ·unfold Lib.TabIs World.var? at h⊢;rw[hg]at h⊢;simp only[hU]at h⊢;rw[hw'];exact h
theorem Tv{τ:AK}(hτ:Ah P τ){run:Ci}(hrun:Bf P run){A:An}{f:FuncId}{fi:FI}(hok:fi.Ok P f){ps:List PS}{xs:BO ps}{C:Prop}(hw:C=HJ τ run A fi ps [.bool] xs λr=>r=true)(h:C)(hS:EO P W (F8 W)){args:Array Value}(hr:AE P (IB W) (C2 ps xs) args.toList):Calls P f args W λe w'=>e=.returned (.bool true)∧Below W.heap.size W w':=by subst hw;refine(R1 hτ hrun hok h hS hr).mono ?_;rintro e w'⟨v,S2,r,rfl,hg,hv,rfl⟩;have hv':N P ⟨w',S2,λ_=>none⟩ (.d .bool true) v:=hv;refine⟨?_,hg.os,hg.tape,hg.output,hg.size,λk hk=>hg.frame k hk⟩;cases hv' with|d h=>rw[(hI (show[v]=[Value.bool true]from h)).1]
end
end
end Go.Proofs.YtldikbpclaeajaaDoor
