/- Part of a proof that a law of the program holds for every input: what the functions answer, in plain Lean. No conditions. -/
import Derived.Below
import Derived.Carry
import Derived.ChangeOld
import Derived.LaidMore
import Derived.Lib.LaidTab
import Derived.OpenShut
import Derived.ProofKit
import Derived.ShutString
import Derived.SizedLaws
import Derived.Stop.Joined
import Derived.WalkKit
import Derived.Test.YtldikbpclaeajaaGreatDoorP11
namespace Go.Proofs.YtldikbpclaeajaaGreatDoor
open Go
set_option linter.defProp false
def ZAC:=@decide_eq_true_iff
def ZBk:=@Int.mul_tdiv_cancel'
def ZBq:=@forall_const
def ZCJ:=@Int.dvd_iff_tmod_eq_zero
def ZCT:=@Bool.not_eq_true'
def ZCZ:=@Int.mul_ediv_add_emod
def ZC1:=@Int.dvd_mul_right
def ZC9:=@Int.tmod_one
def ZDA:=@List.any_map
def ZDe:=@Function.comp_apply
set_option linter.unusedSimpArgs false
set_option linter.unusedVariables false
def Fb(st:Bool×List O×List O×List O)(r:O):Bool×List O×List O×List O:=(st.1||!AJ r,if r.1=0 then(st.2.1++[r],st.2.2.1,st.2.2.2)else if r.1=1 then(st.2.1,st.2.2.1++[r],st.2.2.2)else(st.2.1,st.2.2.1,st.2.2.2++[r]))
def OQ(st:Bool×List O×List O×List O)(c:O):Option (Bool×List O×List O×List O):=if(AV c).2<0 then none else if(AV c).2=0 then some (Fb st (AV c).1)else some st
theorem Qj:∀(p:List O)(st:Bool×List O×List O×List O),p.foldlM OQ st=if CD p then none else some ((Ai p).foldl Fb st)
 |[],st=>by simp[CD,Ai]|c::p,st=>by
  rw[zQ];simp only[OQ,CD,Ai,ZAK,ZCz];by_cases h:(AV c).2<0;·simp[h]
  ·have ih:∀st,p.foldlM OQ st=if CD p then none else some ((Ai p).foldl Fb st):=Qj p;unfold CD Ai at ih;by_cases h2:(AV c).2=0;·simp only[yP h,yS h2,ZAE,ZAv,ih,yV h,ZBC];simp[h2]
   ·simp only[yP h,yP h2,ZAE,ZAv,ih,yV h,ZBC];simp[h2]
structure O2(l:List O)(st:Bool×List O×List O×List O):Prop where
 bad:st.1=l.any λc=>!AJ c
 ge:∀x,x∈st.2.1↔x∈l∧x.1=0
 eq:∀x,x∈st.2.2.1↔x∈l∧x.1=1
 div:∀x,x∈st.2.2.2↔x∈l∧x.1≠0∧x.1≠1
 len:st.2.1.length+st.2.2.1.length+st.2.2.2.length=l.length
theorem sO{l:List O}{st:Bool×List O×List O×List O}{r:O}(h:O2 l st):O2 (l++[r]) (Fb st r):=by
 have hb:(Fb st r).1=(l++[r]).any λc=>!AJ c:=by simp only[Fb,h.bad,List.any_append,ZCz,List.any_nil,ZBL]
 have hg:=h.ge;have hq:=h.eq;have hd:=h.div;have hl:=h.len;unfold Fb at hb⊢;by_cases h0:r.1=0
 ·rw[yS h0]at hb⊢;refine⟨hb,λx=>?_,λx=>?_,λx=>?_,by simp only[yU,yX,zF];omega⟩
  ·simp only[zM,zC,hg];constructor
   ·rintro(h|rfl);·exact⟨.inl h.1,h.2⟩
    ·exact⟨.inr rfl,h0⟩
   ·rintro⟨h1|h1,h2⟩;·exact .inl ⟨h1,h2⟩
    ·exact .inr h1
  ·simp only[zM,zC,hq];constructor;·intro h;exact⟨.inl h.1,h.2⟩
   ·rintro⟨h1|rfl,h2⟩;·exact⟨h1,h2⟩
    ·omega
  ·simp only[zM,zC,hd];constructor;·intro h;exact⟨.inl h.1,h.2⟩
   ·rintro⟨h1|rfl,h2⟩;·exact⟨h1,h2⟩
    ·exact absurd h0 h2.1
 ·rw[yP h0]at hb⊢;by_cases h1:r.1=1
  ·rw[yS h1]at hb⊢;refine⟨hb,λx=>?_,λx=>?_,λx=>?_,by simp only[yU,yX,zF];omega⟩
   ·simp only[zM,zC,hg];constructor;·intro h;exact⟨.inl h.1,h.2⟩
    ·rintro⟨h1|rfl,h2⟩;·exact⟨h1,h2⟩
     ·exact absurd h2 h0
   ·simp only[zM,zC,hq];constructor
    ·rintro(h|rfl);·exact⟨.inl h.1,h.2⟩
     ·exact⟨.inr rfl,h1⟩
    ·rintro⟨h3|h3,h2⟩;·exact .inl ⟨h3,h2⟩
     ·exact .inr h3
   ·simp only[zM,zC,hd];constructor;·intro h;exact⟨.inl h.1,h.2⟩
    ·rintro⟨h3|rfl,h2⟩;·exact⟨h3,h2⟩
     ·exact absurd h1 h2.2
  ·rw[yP h1]at hb⊢;refine⟨hb,λx=>?_,λx=>?_,λx=>?_,by simp only[yU,yX,zF];omega⟩
   ·simp only[zM,zC,hg];constructor;·intro h;exact⟨.inl h.1,h.2⟩
    ·rintro⟨h1|rfl,h2⟩;·exact⟨h1,h2⟩
     ·exact absurd h2 h0
   ·simp only[zM,zC,hq];constructor;·intro h;exact⟨.inl h.1,h.2⟩
    ·rintro⟨h3|rfl,h2⟩;·exact⟨h3,h2⟩
     ·exact absurd h2 h1
   ·simp only[zM,zC,hd];constructor
    ·rintro(h|rfl);·exact⟨.inl h.1,h.2⟩
     ·exact⟨.inr rfl,h0,h1⟩
    ·rintro⟨h3|h3,h2⟩;·exact .inl ⟨h3,h2⟩
     ·exact .inr h3
theorem bC(l:List O):O2 l (l.foldl Fb (false,[],[],[])):=by
 have key:∀k,k≤l.length→O2 (l.take k) ((l.take k).foldl Fb (false,[],[],[])):=by intro k;induction k with|zero=>intro _;exact⟨rfl,by simp,by simp,by simp,rfl⟩|succ k ih=>intro hk;rw[BN U (show k<l.length by omega),ZBF];exact sO (ih (by omega))
 have :=key l.length (zB _);rwa[zA]at this
theorem uK(a b:O):By a b=1∨By a b=-1∨By a b=0:=by
 unfold By;split;·exact .inl rfl
 ·split;·exact .inr (.inl rfl)
  ·exact .inr (.inr rfl)
theorem tU(out:List O)(d c:O):Gc (out++[d]) c=Gc out c++[if d.2.2.1=c.2.2.1 then Cn d c.2.2.2 else d]:=by simp[Gc]
theorem tQ(out:List O)(d c:O):I4 (out++[d]) c=(I4 out c||decide (d.2.2.1=c.2.2.1)):=by simp[I4]
theorem tT{out:List O}{c:O}(h:I4 out c=false):Gc out c=out:=by
 unfold Gc;conv=>rhs;rw[←ZCE out]
 refine ZAw λd hd=>?_;have :=List.any_eq_false.1 h d hd;simp only[ZAp]at this;exact yP this
theorem bQ(out:List O)(c:O):(Gc out c).length=out.length:=by simp[Gc]
theorem lJ{α:Type}{u out:List α}{d:α}{j:Nat}(h:u.length=j):(u++out.drop j).getD j d=out.getD j d:=by rw[yT,ZAS (by omega),h,ZBT,ZAs,ZA6,←yT]
theorem rH{α:Type}{u out:List α}{j:Nat}(h:u.length=j)(hj:j≤out.length):(u++out.drop j).length=out.length:=by rw[yU,ZAF,h];omega
theorem Ce.spec(p:List O)(hp:Ce.pre (p,())):Ce.wp p λr=>r=Ce.fn (p,()):=by
 obtain⟨MI,Nd⟩:OS p:=hp;obtain⟨n,hn,hd⟩:∃n,n≤1048576∧Am p n:=by cases p with|nil=>exact⟨0,by omega,by intro c hc;simp at hc⟩|cons c p=>obtain⟨n,hd⟩:=Nd;exact⟨n,by have h1:=hd c (by simp);have h2:=(MI.2 c (by simp)).2.1;omega,hd⟩
 have hl:=MI.1;have hQ:Ce.fn (p,())=Aa p:=rfl;simp only[Ce.wp,hQ,BM.fn,C2.fn,Cf.fn,D8.fn];refine Lp.foldO p U OQ (false,[],[],[]) (by omega) ?_ ?_
 ·rintro i⟨bad,A,B,D⟩R e e2 hf ht BA A8;have hb:=MI.2 _ (AX (d:=U) e);have hlen:A.length+B.length+D.length≤i:=by
   rw[Qj]at ht;split at ht;·cases ht
   ·have :=(bC (Ai (p.take i))).len;rw[ZBJ ht]at this;simp only at this;have h3:=ZCb (λr:O×Int=>decide (r.2=0)) ((p.take i).map AV);have h4:(Ai (p.take i)).length≤(p.take i).length:=by simp only[Ai,zL]at*;omega
    rw[zG]at h4;omega
  simp only[yO e2,yQ,yR];refine⟨⟨by omega,by omega⟩,hb,?_⟩;have BJ:=bM (p.getD i U);have T5:OQ (bad,A,B,D) (p.getD i U)=if(AV (p.getD i U)).2<0 then none else if(AV (p.getD i U)).2=0 then some (Fb (bad,A,B,D) (AV (p.getD i U)).1)else some (bad,A,B,D):=rfl;rw[T5]at BA A8;generalize hr:AV (p.getD i U)=r at*;obtain⟨r,s⟩:=r;simp only at BJ BA A8;rcases BJ with rfl|rfl|rfl
  ·simp only[show((0:Int)==-1)=false from rfl,show((0:Int)==1)=false from rfl,yN];rw[yP (by omega),yS rfl]at BA;refine⟨λh=>⟨h,trivial⟩,λh=>⟨h,trivial⟩,λh=>by rw[h];rfl,?_⟩;by_cases h0:r.1=0
   ·have EN:Fb (bad,A,B,D) r=(bad||!AJ r,A++[r],B,D):=by simp[Fb,h0]
    simp only[h0,ZAG,yR];rw[EN]at BA;refine⟨⟨by simp;omega,by simp;omega⟩,hf,?_⟩;have e0:(((0:Int),r.2.1,r.2.2):O)=r:=by rw[←h0]
    rw[e0];exact BA _ rfl
   ·simp only[beq_eq_false_iff_ne.2 h0,yN];by_cases h1:r.1=1
    ·have EN:Fb (bad,A,B,D) r=(bad||!AJ r,A,B++[r],D):=by simp[Fb,h1]
     simp only[h1,ZAG,yR];rw[EN]at BA;refine⟨⟨by simp;omega,by simp;omega⟩,hf,?_⟩;have e1:(((1:Int),r.2.1,r.2.2):O)=r:=by rw[←h1]
     rw[e1];exact BA _ rfl
    ·have EN:Fb (bad,A,B,D) r=(bad||!AJ r,A,B,D++[r]):=by simp[Fb,h0,h1]
     simp only[beq_eq_false_iff_ne.2 h1,yN];rw[EN]at BA;exact⟨⟨by simp;omega,by simp;omega⟩,hf,BA _ rfl⟩
  ·simp only[show((1:Int)==-1)=false from rfl,ZAG,yN,yR];exact⟨hf,BA _ rfl⟩
  ·simp only[ZAG,yR];have :=A8 rfl;rw[Qj]at this;rw[If];cases hv:CD p with|true=>rfl|false=>rw[hv]at this;cases this
 rintro⟨bad,A,B,D⟩R GU;rw[Qj]at GU;have hv:CD p=false:=by cases h:CD p with|true=>rw[h]at GU;cases GU|false=>rfl
 rw[hv]at GU;simp only[zY,ZAY,ZA5]at GU;have GS:=bC (Ai p);rw[GU]at GS;clear GU;obtain⟨JP,hA,hB,hD,hlen⟩:=GS;simp only at JP hA hB hD hlen;obtain⟨C8,Eb⟩:=RB MI hd hv;have Fv:=Oa MI hd;have IJ:=Qq MI;rw[←JP]at Eb;generalize Ai p=l at*;generalize Aa p=T at*;have Hp:=IJ.1;have Ey:∀c∈l,c.2.2.1.length=n∧DM c.2.2.1∧Bj c.2.2.2:=λc hc=>⟨(Fv c hc).1.1,Jf (IJ.2 c hc).2,(IJ.2 c hc).2.2.2⟩;simp only[yY,yZ,yN];have TF:∀c∈A,Mk n c∧c.1=0:=λc hc=>⟨Fv c ((hA c).1 hc).1,((hA c).1 hc).2⟩;refine Lp.iter A.length (λi y=>∃out,y=((i:Int),out)∧(∀x,x∈out↔Lm (A.take i) x)∧out.length≤i) ⟨[],rfl,by simp[Lm],by simp⟩ ?_;rintro i y Lw⟨out,rfl,Iv,Du⟩R hR;by_cases e:i<A.length
 ·have Bq:=AX (d:=U) e;have C9:=BN U e;obtain⟨mS,CH⟩:=TF _ Bq;have hcl:=Ey _ ((hA _).1 Bq).1;have oL:∀d∈out,d.2.2.1.length=n:=λd hd=>(TF d (zZ ((Iv d).1 hd).1)).1.1.1;have BG:=tR (λd hd=>TF d (zZ hd)) mS CH Iv;rw[←C9]at BG;simp only[yO (show(i:Int)<(A.length:Int)by omega),yQ,yR];refine⟨⟨by omega,by omega⟩,e,?_⟩;refine Lp.iter out.length (λj y=>y=((j:Int),I4 (out.take j) (A.getD i U),Gc (out.take j) (A.getD i U)++out.drop j)) (by simp[I4,Gc]) ?_;rintro j y Np rfl R' hR';have FQ:(Gc (out.take j) (A.getD i U)).length=j:=by rw[bQ];simp;omega
  by_cases e2:j<out.length
  ·have UD:=BN U e2;have A4:=lJ (d:=U) (out:=out) FQ;have nY:=rH (out:=out) FQ Np;have hdl:=oL _ (AX (d:=U) e2);simp only[yO (show(j:Int)<(out.length:Int)by omega),yQ,yR,A4,nY];refine⟨⟨by omega,by omega⟩,e2,⟨hdl.trans hcl.1.symm,by show(out.getD j U).2.2.1.length≤_;omega,hcl.2.1⟩,?_⟩;have Ns:=hR' e2;rw[UD,tQ,tU]at Ns;by_cases h1:(out.getD j U).2.2.1=(A.getD i U).2.2.1
   ·rw[Me.2 h1];rw[yS h1,yO h1,ZBD]at Ns;refine⟨⟨by omega,by omega⟩,e2,⟨by omega,by omega⟩,e2,⟨by omega,by omega⟩,Ns _ ?_⟩;have Kk:(Gc (out.take j) (A.getD i U)++out.drop j).set j (Cn (out.getD j U) (A.getD i U).2.2.2)=Gc (out.take j) (A.getD i U)++[Cn (out.getD j U) (A.getD i U).2.2.2]++out.drop (j+1):=by rw[ZBh _ _ (by omega),FQ,ZBT,ZAH e2,ZCN,ZAO];rfl
    exact zX (λz=>((j:Int)+1,true,z)) Kk
   ·have T9:By (out.getD j U) (A.getD i U)≠1:=λh=>h1 (Me.1 h);rw[beq_eq_false_iff_ne.2 T9];rw[yP h1,yV h1,ZBL]at Ns;refine⟨⟨by omega,by omega⟩,Ns _ ?_⟩;rw[ZAO,ZCc,A7 e2,←ZAH e2];rfl
  ·have :j=out.length:=by omega
   subst this;simp only[yY,yZ,yN,zA,ZA2,ZAT];unfold VK at BG;cases hh:I4 out (A.getD i U)with|true=>rw[hh]at BG;simp only[zU,yN];refine⟨⟨by omega,by omega⟩,hR e _ ⟨_,rfl,BG,by rw[bQ];omega⟩⟩|false=>rw[hh]at BG;simp only[ZAu,yR,tT hh];exact⟨⟨by simp;omega,by simp;omega⟩,⟨by omega,by omega⟩,hR e _ ⟨_,rfl,BG,by simp;omega⟩⟩
 have nN:i=A.length:=by omega
 subst nN;clear hR Lw e;simp only[yY,yZ,yN,yQ];rw[zA]at Iv;have TJ:∀x,x∈out↔Lm l x∧x.1=0:=λx=>by
  rw[Iv];constructor;·intro h;have h0:x.1=0:=((hA x).1 h.1).2;refine⟨⟨((hA x).1 h.1).1,λ_ d hd hd0 hd1=>h.2 h0 d ((hA d).2 ⟨hd,hd0⟩) hd0 hd1⟩,h0⟩
  ·rintro⟨h,h0⟩;exact⟨(hA x).2 ⟨h.1,h0⟩,λ_ d hd hd0 hd1=>h.2 h0 d ((hA d).1 hd).1 hd0 hd1⟩
 clear Iv;generalize out=G at*;have lW:G.length≤1048576:=by omega
 have Pu:∀k,k<G.length→Mk n (G.getD k U)∧(G.getD k U).1=0∧Lm l (G.getD k U)∧(G.getD k U).2.2.1.length=n∧DM (G.getD k U).2.2.1∧Bj (G.getD k U).2.2.2∧condB (G.getD k U):=λk hk=>by have h1:=(TJ _).1 (AX (d:=U) hk);have h2:=Ey _ h1.1.1;exact⟨Fv _ h1.1.1,h1.2,h1.1,h2.1,h2.2.1,h2.2.2,IJ.2 _ h1.1.1⟩
 refine⟨⟨by omega,by omega,by omega,by omega⟩,?_⟩;have YT:∀i,i≤G.length→i*G.length≤1048576*1048576:=λi hi=>ZCS (by omega) lW;refine Lp.iter G.length (λi y=>∃E gone,y=((i:Int),E,gone)∧FJ G B i (i+1) E gone∧E.length≤B.length+i*G.length) ⟨B,_,rfl,FJ.nil G B,by simp⟩ ?_;rintro i y Lw⟨E,gone,rfl,hI,lV⟩R hR;by_cases e:i<G.length
 ·obtain⟨hiM,hi0,P7,hin,DL,Tl,Ym⟩:=Pu i e;simp only[yO (show(i:Int)<(G.length:Int)by omega),yQ,yR];refine⟨⟨by omega,by omega⟩,e,⟨by omega,by omega⟩,?_⟩;refine Lp.iter (G.length-(i+1)) (λm y=>∃E' gone',y=((i:Int)+1+m,E',gone')∧FJ G B i (i+1+m) E' gone'∧E'.length≤B.length+i*G.length+m) ⟨E,gone,by simp,hI,by omega⟩ ?_;rintro m y yE⟨E',gone',rfl,hI',xA⟩R' hR';have mE:=YT i (by omega);by_cases e2:m<G.length-(i+1)
  ·have ej:i+1+m<G.length:=by omega
   obtain⟨nP,Fz,Tn,hjn,Nn,Yo,xX⟩:=Pu (i+1+m) ej;have pM:((i:Int)+1+m).toNat=i+1+m:=by omega
   have Hl:=hI'.gl;simp only[yO (show(i:Int)+1+m<(G.length:Int)by omega),pM,yR];unfold Bj at Tl Yo;refine⟨⟨by omega,by omega⟩,ej,⟨hin.trans hjn.symm,by show(G.getD i U).2.2.1.length≤_;omega,Nn⟩,?_⟩;by_cases hs:By (G.getD i U) (G.getD (i+1+m) U)=-1
   ·simp only[hs,zJ,yN];refine⟨⟨by omega,by omega⟩,?_⟩;have MK:(G.getD i U).2.2.2+(G.getD (i+1+m) U).2.2.2<0→T=([],true,0):=λh=>C8 (.inl ⟨_,_,P7,Tn,hi0,Fz,(Qx (hiM.gcd hi0)).1 hs,h⟩);by_cases h1:(G.getD i U).2.2.2+(G.getD (i+1+m) U).2.2.2<0;·simp only[yO h1,yR];exact(MK h1).symm
    ·simp only[yV h1,yN];refine⟨⟨by omega,by omega⟩,?_⟩;by_cases h2:(G.getD i U).2.2.2+(G.getD (i+1+m) U).2.2.2=0;·simp only[h2,ZAG,yR];have F2:=hI'.put (by omega) ej ⟨hs,h2⟩;refine⟨⟨by omega,by omega⟩,by omega,⟨by omega,by simp;omega⟩,by simp;omega,⟨.inr (.inl rfl),Ym.2⟩,⟨by simp;omega,by simp;omega⟩,⟨by omega,by omega⟩,hR' e2 _ ⟨_,_,?_,F2,by simp;omega⟩⟩;exact zX (λz:Int=>(z,E'++[EW (G.getD i U)],(gone'.set i true).set (i+1+m) true)) (by omega)
     ·simp only[beq_eq_false_iff_ne.2 h2,yN];have Ht:=hI'.skip (by omega) ej λ_=>by omega
      refine⟨⟨by omega,by omega⟩,hR' e2 _ ⟨_,_,?_,Ht,by omega⟩⟩;exact zX (λz:Int=>(z,E',gone')) (by omega)
   ·simp only[bne_iff_ne.2 hs,yR];have Ht:=hI'.skip (by omega) ej λh=>absurd h hs;refine⟨⟨by omega,by omega⟩,hR' e2 _ ⟨_,_,?_,Ht,by omega⟩⟩;exact zX (λz:Int=>(z,E',gone')) (by omega)
  ·have hm:i+1+m=G.length:=by omega
   rw[hm]at hI';simp only[yV (show¬(i:Int)+1+m<(G.length:Int)by omega),yN];refine⟨⟨by omega,by omega⟩,hR e _ ⟨_,_,rfl,hI'.row,?_⟩⟩;rw[ZAd];omega
 have Tk:i=G.length:=by omega
 subst Tk;clear hR Lw e;simp only[yY,yZ,yN,yQ];have hP:=hI.done Fv TJ hB;have mE:=YT G.length (zB _);have wZ:E.length≤1048576+1099511627776:=by omega
 clear hI lV;have H9:∀k,k<E.length→Mk n (E.getD k U)∧(E.getD k U).1=1∧MM (Lm l) (E.getD k U)∧(E.getD k U).2.2.1.length=n∧DM (E.getD k U).2.2.1∧Bj (E.getD k U).2.2.2:=λk hk=>by
  have h1:=(hP.ee _).1 (AX (d:=U) hk);have h3:Mk n (E.getD k U)∧condB (E.getD k U):=by
   rcases h1.1 with⟨h2,_⟩|⟨c,hc,c0,_,h2⟩;·exact⟨Fv _ h2.1,IJ.2 _ h2.1⟩
   ·rw[h2];exact⟨(Hy (Fv c hc.1) c0).1,XW (IJ.2 c hc.1).2⟩
  exact⟨h3.1,h1.2,h1.1,h3.1.1.1,Jf h3.2.2,h3.2.2.2.2⟩
 refine Lp.iter E.length (λi y=>∃gone',y=((i:Int),gone')∧H2 G E gone i gone') ⟨gone,rfl,H2.nil hP.gl⟩ ?_;rintro i y Lw⟨gone1,rfl,hI⟩R hR;by_cases e:i<E.length
 ·obtain⟨hiM,hi1,P7,hin,DL,Tl⟩:=H9 i e;have Hl:=hI.gl;simp only[yO (show(i:Int)<(E.length:Int)by omega),yQ,yR];refine⟨⟨by omega,by omega⟩,e,⟨by omega,by omega⟩,?_⟩;refine Lp.iter i (λj y=>y=(j:Int)∧∀a,a<j→(E.getD i U).2.2.1=(E.getD a U).2.2.1→(E.getD i U).2.2.2=(E.getD a U).2.2.2) ⟨rfl,λa ha=>absurd ha (by omega)⟩ ?_;rintro j y Np⟨rfl,hj⟩R2 A8;by_cases e2:j<i
  ·obtain⟨nP,FP,Tn,hjn,Nn,Yo⟩:=H9 j (by omega);simp only[yO (show(j:Int)<(i:Int)by omega),yQ,yR,ZAJ];refine⟨⟨by omega,by omega,by omega⟩,by omega,⟨hin.trans hjn.symm,by show(E.getD i U).2.2.1.length≤_;omega,Nn⟩,λh=>⟨h,trivial⟩,λh=>⟨h,trivial⟩,λh=>⟨h,trivial⟩,λh=>⟨h,trivial⟩,λh=>⟨h,h,trivial⟩,λh=>h,?_⟩;by_cases hs:(E.getD i U).2.2.1=(E.getD j U).2.2.1
   ·rw[Me.2 hs];by_cases hk:(E.getD i U).2.2.2=(E.getD j U).2.2.2
    ·simp only[hk,zJ,ZB7,yN];refine⟨⟨by omega,by omega⟩,A8 e2 _ ⟨rfl,λa ha h=>?_⟩⟩;by_cases TP:a=j;·subst TP;exact hk
     ·exact hj a (by omega) h
    ·simp only[bne_iff_ne.2 hk,ZAG,ZBt,yR];exact(C8 (.inr (.inl ⟨_,_,P7,Tn,hi1,FP,hs,hk⟩))).symm
   ·have T9:By (E.getD i U) (E.getD j U)≠1:=λh=>hs (Me.1 h);simp only[beq_eq_false_iff_ne.2 T9,ZCQ,yN];refine⟨⟨by omega,by omega⟩,A8 e2 _ ⟨rfl,λa ha h=>?_⟩⟩;by_cases TP:a=j;·subst TP;exact absurd h hs
    ·exact hj a (by omega) h
  ·have Nn:j=i:=by omega
   subst Nn;simp only[yY,yZ,yN];refine Lp.iter G.length (λk y=>∃gone',y=((k:Int),gone')∧Gz G E gone j k gone1 gone') ⟨gone1,rfl,Gz.nil Hl⟩ ?_;rintro k y nU⟨gone',rfl,hr⟩R3 Ln;have xU:=hr.gl;by_cases e3:k<G.length
   ·obtain⟨xZ,GP,nR,hkn,Lx,Yr,JS⟩:=Pu k e3;simp only[yO (show(k:Int)<(G.length:Int)by omega),yQ,yR];refine⟨⟨by omega,by omega⟩,e3,⟨by omega,by omega⟩,by omega,λh=>⟨h,h,⟨hin.trans hkn.symm,by show(E.getD j U).2.2.1.length≤_;omega,Lx⟩⟩,λh=>⟨h,trivial⟩,λh=>by rw[h];rfl,?_⟩;have lU:∀a,a≤j→Mk n (E.getD a U)∧(E.getD a U).1=1:=λa ha=>⟨(H9 a (by omega)).1,(H9 a (by omega)).2.1⟩;by_cases Ht:gone'.getD k false=true∨By (E.getD j U) (G.getD k U)=0
    ·have hb:(gone'.getD k false||By (E.getD j U) (G.getD k U)==0)=true:=by
      rcases Ht with h|h;·rw[h,ZBd]
      ·rw[h,ZAG,ZBD]
     rw[hb];exact⟨⟨by omega,by omega⟩,Ln e3 _ ⟨_,rfl,Gz.skip lU hI hj hr e3 Ht⟩⟩
    ·rw[ZAX]at Ht;have Nh:gone'.getD k false=false:=by simpa using Ht.1
     simp only[Nh,beq_eq_false_iff_ne.2 Ht.2,ZBm,yN];unfold Bj at Tl Yr;have CT:=uK (E.getD j U) (G.getD k U);have hmul:∀s:Int,s=1∨s=-1∨s=0→AB .i64 (s*(E.getD j U).2.2.2)∧AB .i64 ((G.getD k U).2.2.2-s*(E.getD j U).2.2.2):=λs hs=>by
      rcases hs with rfl|rfl|rfl;·exact⟨⟨by omega,by omega⟩,⟨by omega,by omega⟩⟩
      ·exact⟨⟨by omega,by omega⟩,⟨by omega,by omega⟩⟩
      ·exact⟨⟨by omega,by omega⟩,⟨by omega,by omega⟩⟩
     refine⟨⟨hin.trans hkn.symm,by show(E.getD j U).2.2.1.length≤_;omega,Lx⟩,(hmul _ CT).1,(hmul _ CT).2,?_⟩;have Kb:gone.getD k false=false∧∀a,a<j→By (E.getD a U) (G.getD k U)=0:=by
      have h1:¬gone1.getD k false=true:=λh=>by have :=(hr.gg k e3).2 (.inl h);rw[Nh]at this;cases this
      have h2:¬(gone.getD k false=true∨∃a,a<j∧By (E.getD a U) (G.getD k U)≠0):=λh=>h1 ((hI.gg k e3).2 h);rw[ZAX]at h2;refine⟨by simpa using h2.1,λa ha=>?_⟩;rcases ZCe (By (E.getD a U) (G.getD k U)=0)with h3|h3;·exact h3
      ·exact absurd ⟨a,ha,h3⟩ h2.2
     have nS:MM (Lm l) (G.getD k U):=.inl ⟨nR,λ_ ho=>by have :=(hP.gg k e3).2 ho;rw[Kb.1]at this;cases this⟩;by_cases EM:(G.getD k U).2.2.2-By (E.getD j U) (G.getD k U)*(E.getD j U).2.2.2<0
     ·simp only[yO EM,yR];refine(C8 (.inr (.inr ⟨_,_,nS,P7,GP,hi1,?_⟩))).symm;rcases CT with h1|h1|h1;·rw[h1]at EM;exact .inl ⟨Me.1 h1,by omega⟩
      ·rw[h1]at EM;have h2:=(Qx (hiM.1.2.1 (by omega))).1 h1;exact .inr ⟨by rw[h2,Ku],by omega⟩
      ·exact absurd h1 Ht.2
     ·simp only[yV EM,yN];exact⟨⟨by omega,by omega⟩,by omega,⟨by omega,by omega⟩,Ln e3 _ ⟨_,rfl,hr.put e3 Ht.2 (by omega) (hiM.1.2.1 (by omega))⟩⟩
   ·have nQ:k=G.length:=by omega
    subst nQ;simp only[yY,yZ,yN];exact⟨⟨by omega,by omega⟩,hR e _ ⟨_,rfl,hI.row hj hr⟩⟩
 have nO:i=E.length:=by omega
 subst nO;clear hR Lw e;simp only[yY,yZ,yN];have Hl:=hI.gl;refine Lp.iter G.length (λi y=>∃out,y=((i:Int),out)∧(∀x,x∈out↔x∈E∨∃k,k<i∧gone1.getD k false=false∧x=G.getD k U)∧out.length≤E.length+i) ⟨E,rfl,λx=>⟨.inl,λh=>h.elim id λ⟨k,hk,_⟩=>absurd hk (by omega)⟩,by omega⟩ ?_;rintro i y Lw⟨out,rfl,Iv,Du⟩R hR;by_cases e:i<G.length;·simp only[yO (show(i:Int)<(G.length:Int)by omega),yQ,yR];refine⟨⟨by omega,by omega⟩,e,⟨by omega,by omega⟩,by omega,?_⟩;cases hg:gone1.getD i false with
  |false=>
   simp only[ZAu,yR];refine⟨⟨by simp;omega,by simp;omega⟩,⟨by omega,by omega⟩,hR e _ ⟨_,rfl,λx=>?_,by simp;omega⟩⟩;rw[zM,zC,Iv,ZDd];refine ZCw ZCR ⟨?_,?_⟩
   ·rintro(⟨k,hk,h⟩|rfl);·exact⟨k,by omega,h⟩
    ·exact⟨i,by omega,hg,rfl⟩
   ·rintro⟨k,hk,h1,h2⟩;rcases ZAn k i with h3|h3;·exact .inl ⟨k,h3,h1,h2⟩
    ·have :k=i:=by omega
     subst this;exact .inr h2|true=>
   simp only[zU,yN];refine⟨⟨by omega,by omega⟩,hR e _ ⟨_,rfl,λx=>?_,by omega⟩⟩;rw[Iv];refine ZCw ZCR ⟨?_,?_⟩;·rintro⟨k,hk,h⟩;exact⟨k,by omega,h⟩
   ·rintro⟨k,hk,h1,h2⟩;rcases ZAn k i with h3|h3;·exact⟨k,h3,h1,h2⟩
    ·have :k=i:=by omega
     subst this;rw[hg]at h1;cases h1
 have Tk:i=G.length:=by omega
 subst Tk;simp only[yY,yZ,yN];have A9:∀x,x∈out++D↔x∈E∨(∃k,k<G.length∧gone1.getD k false=false∧x=G.getD k U)∨x∈l∧x.1=2:=λx=>by
  rw[zM,Iv,ZDd];refine ZCw ZCR (ZCw ZCR ?_);rw[hD];constructor
  ·rintro⟨h1,h2,h3⟩;rcases(Fv x h1).2.1 with h|h|h;·exact absurd h h2
   ·exact absurd h h3
   ·exact⟨h1,h⟩
  ·rintro⟨h1,h2⟩;exact⟨h1,by omega,by omega⟩
 obtain⟨T1,HH⟩:=hI.done Fv TJ hP A9;have hT:=Eb hP.nv T1 _ HH;have nC:Am (out++D) n:=λx hx=>by
  rcases(A9 x).1 hx with h|⟨k,hk,_,rfl⟩|⟨h,_⟩;·obtain⟨k,hk,rfl⟩:=HX (d:=U) h;exact(H9 k hk).2.2.2.1
  ·exact(Pu k hk).2.2.2.1
  ·exact(Ey x h).1
 refine⟨⟨by omega,by omega⟩,⟨by show(out++D).length≤_;simp only[yU];omega,n,hn,nC⟩,λh=>⟨h,trivial⟩,λh=>⟨h,trivial⟩,λh=>by rw[h];rfl,?_⟩;rw[hT];have e1:decide ((96:Int)<((Au (out++D)).length:Int))=decide (96<(Au (out++D)).length):=decide_eq_decide.2 (by omega);rw[e1];cases bad||decide (96<(Au (out++D)).length)<;>rfl
theorem eL{n:Int}(h1:-9223372036854775808≤n)(h2:n≤9223372036854775807):IntKind.wrap .i64 n=n:=by simp[IntKind.wrap,IntKind.bits,IntKind.signed];omega
theorem kR(l:List AG)(s:AG):La (l++[s])=IntKind.wrap .i64 (La l+(s.2.length:Int)):=by simp[La]
theorem BK.spec(n m:Int)(l:List AG)(hl:l.length≤9223372036854775807)(hs:∀s∈l,s.2.length≤9223372036854775807):BK.wp n m l λr=>r=BK.fn (n,m,l,()):=by
 have hfn:BK.fn (n,m,l,())=(LZ m l&&decide (La l≤n)):=rfl;simp only[BK.wp,hfn];refine Lp.iter l.length (λi y=>y=((i:Int),La (l.take i))∧LZ m (l.take i)=true) ⟨rfl,rfl⟩ ?_;rintro i y hle⟨rfl,hf⟩R hR;by_cases e:i<l.length
 ·have C9:=BN ((0,[]):AG) e;have IM:=hs _ (AX (d:=((0,[]):AG)) e);simp only[yO (show(i:Int)<(l.length:Int)by omega),yQ,yR];refine⟨⟨by omega,by omega⟩,?_⟩;have hall:LZ m l=true→∀p∈(l.getD i (0,[])).2,(p.length:Int)≤m:=λh p hp=>by have :=List.all_eq_true.1 h _ (AX (d:=((0,[]):AG)) e);have :=List.all_eq_true.1 this p hp;simpa using this
  refine Lp.iter (l.getD i (0,[])).2.length (λj y=>y=(j:Int)∧∀k,k<j→((((l.getD i (0,[])).2.getD k []).length:Nat):Int)≤m) ⟨rfl,λk hk=>absurd hk (by omega)⟩ ?_;rintro j y Np⟨rfl,hj⟩R' hR';by_cases e2:j<(l.getD i (0,[])).2.length
  ·simp only[yO (show(j:Int)<((l.getD i (0,[])).2.length:Int)by omega),yQ,yR];refine⟨⟨by omega,by omega⟩,?_⟩;by_cases h1:m<((((l.getD i (0,[])).2.getD j []).length:Nat):Int);·simp only[yO h1,yR];cases Ir:LZ m l with|false=>rfl|true=>have :=hall Ir _ (AX (d:=[]) e2);omega
   ·simp only[yV h1,yN];rw[eL (by omega) (by omega)];refine hR' e2 _ ⟨rfl,λk hk=>?_⟩;by_cases Tp:k=j;·subst Tp;omega
    ·exact hj k (by omega)
  ·have :j=(l.getD i (0,[])).2.length:=by omega
   subst this;simp only[yY,yZ,yN];rw[eL (n:=(i:Int)+1) (by omega) (by omega)];refine hR e _ ⟨?_,?_⟩;·rw[C9,kR];rfl
   ·rw[C9];unfold LZ at hf⊢;rw[ZBx,hf];simp only[ZCC,ZCj,ZBt,ZBu,ZAP,ZAp];intro p hp;obtain⟨k,hk,rfl⟩:=HX (d:=[]) hp;exact hj k hk
 ·have :i=l.length:=by omega
  subst this;rw[zA]at hf⊢;simp only[yY,yZ,yN,hf,ZBu]
theorem gQ:BQ (1,[[(0,0,[1],0),(0,0,[-1],5)]]) (1,[[(0,0,[1],-2),(0,0,[-1],3)]])=((1,[[(0,0,[-1],5),(0,0,[1],-4)],[(0,0,[-1],1),(0,0,[1],0)]]),0):=by kernel_rfl
theorem gR:A1 (1,[[(0,0,[1],-3),(0,0,[-1],3)]])=((1,[[(1,0,[1],-3)]]),0):=by kernel_rfl
theorem Ak.spec:Ak.wp λr=>r=Ak.fn ():=by simp only[Ak.wp,C3.fn,Ap.fn,Dx.fn,DP.fn,gQ,gR];simp
theorem Kp(a:AG×Int):Cm.fn (a.1,a.2,a.1,a.2,())=true:=by simp[Cm.fn]
theorem law04_SetNormal.spec(x:AG):law04_SetNormal.wp x λr=>r=true:=by simp only[law04_SetNormal.wp,Ap.fn,EQ.fn,Kp,Ak.fn];cases BK.fn _<;>simp
theorem law04_SetMinus.spec(x y:AG):law04_SetMinus.wp x y λr=>r=true:=by simp only[law04_SetMinus.wp,C3.fn,Fl.fn,Kp,Ak.fn];cases BK.fn _<;>simp
theorem law04_SetSimple.spec(p:List O)(n:Int):law04_SetSimple.wp p n λr=>r=true:=by simp only[law04_SetSimple.wp,Fp.fn,Fm.fn,D7.fn,Ak.fn];cases decide (500<((p.length:Nat):Int))<;>simp
theorem law04_SetJoins.spec(x y:AG):law04_SetJoins.wp x y λr=>r=true:=by simp only[law04_SetJoins.wp,EU.fn,Fo.fn,ER.fn,Fk.fn,Kp,Ak.fn];cases BK.fn _<;>simp
theorem law04_SetHas.spec(x:AG)(p:List Int):law04_SetHas.wp x p λr=>r=true:=by simp only[law04_SetHas.wp,D9.fn,Fi.fn,Ak.fn];cases BK.fn _<;>simp
theorem Bl.spec(x:AG)(hl:x.2.length≤9223372036854775807):Bl.wp x λr=>r=Bl.fn (x,()):=by
 obtain⟨n,ps⟩:=x;simp only[Bl.wp,Bl.fn,C2.fn];have hg:∀b:Bool,b=true→b=true∧True:=λb h=>⟨h,trivial⟩;have hn:∀b:Bool,b=false→(!b)=true:=λb h=>by rw[h];rfl
 refine⟨hg _,hg _,hn _,hg _,hg _,hg _,hn _,?_⟩;by_cases h1:n<0;·simp[h1,AD,show¬0≤n by omega]
 by_cases h2:12<n;·simp[h1,h2,AD,show¬n≤12 by omega]
 by_cases h3:(400:Int)<(ps.length:Int);·simp only[yO h3,ZBD,yR];simp[AD,show¬(ps.length:Int)≤400 by omega]
 rw[yV h1,yV h2,yV h3];have hv:∀b,ps.all (λp=>decide ((p.length:Int)≤96)&&DN p n)=b→AD (n,ps)=b:=λb h=>by simp only[AD,h];rw[yO (show(0:Int)≤n by omega),yO (show n≤12 by omega),yO (show(ps.length:Int)≤400 by omega)];rfl
 refine Lp.all ps [] (λp=>decide ((p.length:Int)≤96)&&DN p n) hl (λi R hi hi' hf ht FO=>?_) λR h=>?_
 ·simp only[yO hi',yQ];refine⟨⟨by omega,hi'⟩,?_⟩;by_cases h4:(96:Int)<((ps.getD i []).length:Int);·simp only[yO h4,yR];exact(hv false (FO (by rw[yV (show¬((ps.getD i []).length:Int)≤96 by omega)];rfl))).symm
  ·simp only[yV h4,yN];have h5:decide (((ps.getD i []).length:Int)≤96)=true:=yO (by omega);rw[h5,ZBu]at ht FO;refine Lp.all (ps.getD i []) U (λc=>AJ c&&(c.2.2.1.length:Int)==n) (by omega) (λj R' hj hj' hf' ht' Lr=>?_) λR' h'=>?_
   ·simp only[yO hj',yQ,yR];refine⟨⟨by omega,by omega⟩,hg _,hg _,hg _,hg _,λh=>⟨h,h,trivial⟩,λh=>by rw[h];rfl,?_⟩;have hb:( !AJ ((ps.getD i []).getD j U)||(((ps.getD i []).getD j U).2.2.1.length:Int)!=n)=!(AJ ((ps.getD i []).getD j U)&&(((ps.getD i []).getD j U).2.2.1.length:Int)==n):=by rw[Bool.not_and];rfl
    rw[hb];by_cases h6:(AJ ((ps.getD i []).getD j U)&&(((ps.getD i []).getD j U).2.2.1.length:Int)==n)=true;·have :=ht' h6;rw[h6];exact⟨hf',this⟩
    ·rw[ZA9]at h6;have :=Lr h6;rw[h6];exact(hv false (FO this)).symm
   ·simp only[yY,yZ,yN];exact⟨hf,ht h'⟩
 ·simp only[yY,yZ,yN];exact(hv true h).symm
def BP(c:O)(x:List Int):Int:=c.2.2.2+Az c.2.2.1 x
theorem Za(c:O)(x:List Int):Ao c x=FH c (BP c x):=rfl
theorem SH:∀(C x:List Int),Az (Al C) x=-Az C x|[],x=>by simp[Al,Az]|n::C,[]=>by simp[Al,Az]|n::C,y::x=>by have :=SH C x;simp only[Al]at this;simp only[Al,ZAK,Az,this,ZD2];omega
theorem XK(C x:List Int):Az (C.map λn=>-n) x=-Az C x:=SH C x
theorem XM(g:Int):∀(C D x:List Int),C.length=D.length→(∀i,i<C.length→C.getD i 0=g*D.getD i 0)→Az C x=g*Az D x
 |[],[],x,_,_=>by simp[Az]|[],_::_,_,h,_=>by simp at h|_::_,[],_,h,_=>by simp at h|n::C,m::D,[],_,_=>by simp[Az]|n::C,m::D,y::x,h,hi=>by
  have h0:=hi 0 (by simp);simp only[ZDf]at h0;have ih:=XM g C D x (by simpa using h) λi hi'=>by have :=hi (i+1) (by simpa using hi');simpa using this
  simp only[Az,h0,ih,ZCW,Int.mul_assoc]
theorem M8{g:Int}{C:List Int}(h:∀n∈C,g∣n)(x:List Int):Az C x=g*Az (C.map (·.tdiv g)) x:=by
 refine XM g C _ x (by simp) λi hi=>?_;have hm:C.getD i 0∈C:=AX hi;have e:(C.map (·.tdiv g)).getD i 0=(C.getD i 0).tdiv g:=by simp[yT,hi]
 rw[e,ZBk (h _ hm)]
theorem SI{C:List Int}(h:∀n∈C,n=0)(x:List Int):Az C x=0:=by have :=M8 (g:=0) (C:=C) (λn hn=>by rw[h n hn];exact Int.dvd_refl _) x;simpa using this
theorem XL(m:Int):∀(C x:List Int),m∣Az C x-Az (C.map (·%m)) x
 |[],x=>by simp[Az]|n::C,[]=>by simp[Az]|n::C,y::x=>by
  obtain⟨k,hk⟩:=XL m C x;refine⟨n/m*y+k,?_⟩;have h1:=ZCZ n m;simp only[ZAK,Az];have e:n*y=m*(n/m)*y+n%m*y:=by rw[←Int.add_mul,h1]
  rw[e,ZCW,←Int.mul_assoc];omega
theorem KO{l:List Int}{n:Int}(h:n∈l):(AO l:Int)∣n:=Int.ofNat_dvd_left.2 ((NL (l:=l) (g:=0)).2 n h)
theorem Vm{v m:Int}:(v.tmod m==0)=decide (m∣v):=by rw[ZAc];simp[ZCJ]
theorem lH(c:O)(x:List Int)(h0:c.1=0):((FM c).2=0→Ao (FM c).1 x=Ao c x)∧(0<(FM c).2→Ao c x=true)∧((FM c).2<0→Ao c x=false):=by
 have ht:Ao c x=decide (0≤BP c x):=by unfold Ao FH;rw[yS h0];rfl
 rw[ht];unfold FM;split
 ·rename_i hg;have hz:Az c.2.2.1 x=0:=SI (S6 hg) x;have :BP c x=c.2.2.2:=by simp[BP,hz]
  rw[this];unfold Cs;by_cases hk:0≤c.2.2.2<;>simp[hk]
 ·rename_i hg;refine⟨λ_=>?_,λh=>absurd h (by simp),λh=>absurd h (by simp)⟩;have hd:=M8 (g:=(AO c.2.2.1:Int)) (C:=c.2.2.1) (λn hn=>KO hn) x;have Ag:(0:Int)<(AO c.2.2.1:Int):=by omega
  simp only[Ao,FH,ZA4,BP,hd];rw[ZAc,ZAC,ZAC];generalize Az (c.2.2.1.map (·.tdiv (AO c.2.2.1:Int))) x=d;generalize(AO c.2.2.1:Int)=g at Ag;generalize c.2.2.2=k;have h1:-d≤k/g↔-d*g≤k:=ZDN Ag;rw[ZD2,ZCK]at h1;constructor;·intro h;have :=h1.1 (by omega);omega
  ·intro h;have :=h1.2 (by omega);omega
theorem kM(c:O)(x:List Int)(h1:c.1=1):((Bt c).2=0→Ao (Bt c).1 x=Ao c x)∧(0<(Bt c).2→Ao c x=true)∧((Bt c).2<0→Ao c x=false):=by
 have ht:Ao c x=(BP c x==0):=by simp[Ao,FH,h1,BP]
 rw[ht];unfold Bt;split
 ·rename_i hg;by_cases hz:AO c.2.2.1=0
  ·have hd:Az c.2.2.1 x=0:=SI (S6 hz) x;have :BP c x=c.2.2.2:=by simp[BP,hd]
   rw[this];unfold Cs;by_cases hk:c.2.2.2=0<;>simp[hk,hz]
  ·have hm:c.2.2.2.tmod (AO c.2.2.1)≠0:=hg.resolve_left hz;have Ab:BP c x≠0:=λe=>hm (by have hd:=M8 (g:=(AO c.2.2.1:Int)) (C:=c.2.2.1) (λn hn=>KO hn) x;unfold BP at e;rw[←ZCJ];exact⟨-Az (c.2.2.1.map (·.tdiv (AO c.2.2.1:Int))) x,by rw[Int.mul_neg,←hd];omega⟩);unfold Cs;simp[hz,Ab]
 ·rename_i hg;simp only[ZAX,ZDM,Classical.not_not]at hg;obtain⟨hz,hm⟩:=hg;refine⟨λ_=>?_,λh=>absurd h (by simp),λh=>absurd h (by simp)⟩;have hs:Bo c=(AO c.2.2.1:Int)∨Bo c=-(AO c.2.2.1:Int):=by unfold Bo;split<;>simp
  have Ng:∀n:Int,(AO c.2.2.1:Int)∣n→Bo c∣n:=λn hn=>by
   rcases hs with e|e<;>rw[e];·exact hn
   ·exact Int.neg_dvd.2 hn
  have Ab:Bo c≠0:=by rcases hs with e|e<;>rw[e]<;>omega
  have hd:=M8 (g:=Bo c) (C:=c.2.2.1) (λn hn=>Ng n (KO hn)) x;have hk:Bo c*c.2.2.2.tdiv (Bo c)=c.2.2.2:=ZBk (Ng _ (Int.dvd_iff_tmod_eq_zero.2 hm));simp only[Ao,FH,show¬(1:Int)=0 by omega,ZAY,ZA4,BP,hd];rw[ZAc,ZB0,ZB0];rw[show c.2.2.2+Bo c*Az (c.2.2.1.map (·.tdiv (Bo c))) x=Bo c*(c.2.2.2.tdiv (Bo c)+Az (c.2.2.1.map (·.tdiv (Bo c))) x)by rw[ZCW,hk]];constructor;·intro h;rw[h,Int.mul_zero]
  ·intro h;exact(Int.mul_eq_zero.1 h).resolve_left Ab
theorem jC(c:O)(x:List Int)(h2:c.1=2)(hm:1≤c.2.1):((EJ c).2=0→Ao (EJ c).1 x=Ao c x)∧(0<(EJ c).2→Ao c x=true)∧((EJ c).2<0→Ao c x=false):=by
 have ht:Ao c x=decide (c.2.1∣BP c x):=by simp only[Ao,FH,h2,BP,show¬(2:Int)=0 by omega,show¬(2:Int)=1 by omega,ZAY];exact Vm
 have HJ:c.2.1∣BP c x↔c.2.1∣c.2.2.2%c.2.1+Az (c.2.2.1.map (·%c.2.1)) x:=by
  obtain⟨k,hk⟩:=XL c.2.1 c.2.2.1 x;have e:=ZCZ c.2.2.2 c.2.1;have :BP c x=(c.2.2.2%c.2.1+Az (c.2.2.1.map (·%c.2.1)) x)+c.2.1*(c.2.2.2/c.2.1+k):=by unfold BP;rw[ZCW];omega
  rw[this];exact Int.dvd_add_left (ZC1 _ _)
 have Lv:(As c:Int)∣c.2.1:=KO (l:=c.2.1::c.2.2.1.map (·%c.2.1)) (by simp);have P5:∀n∈c.2.2.1.map (·%c.2.1),(As c:Int)∣n:=λn hn=>KO (l:=c.2.1::c.2.2.1.map (·%c.2.1)) (by simp only[zO];exact .inr hn);have Nh:0<As c:=NM hm _;have hd:=M8 (g:=(As c:Int)) (C:=c.2.2.1.map (·%c.2.1)) P5 x;rw[ht];unfold EJ;split;·rename_i hk;have hn:¬c.2.1∣BP c x:=λh=>hk (by have h3:=Int.dvd_trans Lv (HJ.1 h);rw[←ZCJ];exact(Int.dvd_add_left (by rw[hd];exact ZC1 _ _)).1 h3);simp[Cs,hn]
 ·rename_i hk;simp only[ZDM,Classical.not_not]at hk;have hk':=Int.dvd_iff_tmod_eq_zero.2 hk;split
  ·rename_i he;have hn:c.2.1∣BP c x:=HJ.2 (by
   have hd':c.2.1∣Az (c.2.2.1.map (·%c.2.1)) x:=by rw[hd,←he];exact ZC1 _ _
   exact Int.dvd_add (by have :=hk';rwa[←he]at this) hd');simp[Cs,hn]
  ·refine⟨λ_=>?_,λh=>absurd h (by simp),λh=>absurd h (by simp)⟩;simp only[Ao,FH,show¬(2:Int)=0 by omega,show¬(2:Int)=1 by omega,ZAY];rw[Vm,ZAc,ZAC,ZAC,HJ,hd];have e1:(As c:Int)*c.2.1.tdiv (As c)=c.2.1:=ZBk Lv;have e2:(As c:Int)*(c.2.2.2%c.2.1).tdiv (As c)=c.2.2.2%c.2.1:=ZBk hk';have Ab:(As c:Int)≠0:=by omega
   generalize Az ((c.2.2.1.map (·%c.2.1)).map (·.tdiv (As c:Int))) x=d;rw[←Int.mul_dvd_mul_iff_left Ab,ZCW,e1,e2]
theorem OZ{c:O}(hb:OE c)(x:List Int):((AV c).2=0→Ao (AV c).1 x=Ao c x)∧(0<(AV c).2→Ao c x=true)∧((AV c).2<0→Ao c x=false):=by
 unfold AV;rcases hb with h|h|⟨h,h2,_⟩;·rw[yS h];exact lH c x h
 ·rw[yP (by omega),yS h];exact kM c x h
 ·rw[yP (by omega),yP (by omega)];exact jC c x h h2
def BD(p:List O)(x:List Int):Bool:=p.all λc=>Ao c x
theorem MO{p:List O}{x:List Int}:BD p x=true↔∀c∈p,Ao c x=true:=by simp[BD]
theorem JZ(p q:List O)(x:List Int):BD (p++q) x=(BD p x&&BD q x):=by simp[BD]
theorem tK{p:List O}(hb:A2 p)(x:List Int)(h:CD p=true):BD p x=false:=by simp only[CD,ZDA,ZBN,ZDe,ZAC]at h;obtain⟨c,hc,h⟩:=h;have :=(OZ (hb.2 c hc).1 x).2.2 h;simp only[BD,List.all_eq_false];exact⟨c,hc,by rw[this];simp⟩
theorem tH{p:List O}(hb:A2 p)(x:List Int)(h:CD p=false):BD (Ai p) x=BD p x:=by
 rw[ZAc,MO,MO];have hn:∀c∈p,¬(AV c).2<0:=λc hc AY=>by
  have :CD p=true:=by simp only[CD,ZDA,ZBN,ZDe,ZAC];exact⟨c,hc,AY⟩
  rw[h]at this;cases this
 constructor
 ·intro ha c hc;have hs:=OZ (hb.2 c hc).1 x;rcases Int.lt_trichotomy (AV c).2 0 with h0|h0|h0;·exact absurd h0 (hn c hc)
  ·rw[←hs.1 h0];refine ha _ ?_;simp only[Ai,ZAb,ZBy];exact⟨AV c,⟨⟨c,hc,rfl⟩,by simpa using h0⟩,rfl⟩
  ·exact hs.2.1 h0
 ·intro ha c hc;simp only[Ai,ZAb,ZBy]at hc;obtain⟨r,⟨⟨d,hd,rfl⟩,hr⟩,rfl⟩:=hc;rw[(OZ (hb.2 d hd).1 x).1 (by simpa using hr)];exact ha d hd
def JB(L:O→Prop)(x:List Int):Prop:=∀c,L c→Ao c x=true
theorem F4{c:O}(h:c.1=0)(x:List Int):Ao c x=true↔0≤BP c x:=by unfold Ao FH;rw[yS h,ZAC];rfl
theorem Ko{c:O}(h:c.1=1)(x:List Int):Ao c x=true↔BP c x=0:=by unfold Ao FH;rw[yP (by omega),yS h,ZB0];rfl
theorem Xd(f:O→Int):∀{l:List O},l≠[]→∃c∈l,∀d∈l,f c≤f d
 |[],h=>absurd rfl h|[c],_=>⟨c,by simp,λd hd=>by simp only[zC]at hd;subst hd;exact ZAr _⟩|c::d::l,_=>by
  obtain⟨e,he,hm⟩:=Xd f (l:=d::l) (by simp);by_cases h:f c≤f e
  ·refine⟨c,by simp,λy hy=>?_⟩;rcases List.mem_cons.1 hy with rfl|hy;·exact ZAr _
   ·exact Int.le_trans h (hm y hy)
  ·refine⟨e,zD _ he,λy hy=>?_⟩;rcases List.mem_cons.1 hy with rfl|hy;·omega
   ·exact hm y hy
theorem fR{l:List O}{x:List Int}:JB (Lm l) x↔∀c∈l,Ao c x=true:=by
 refine⟨λh d hd=>?_,λh c hc=>h c hc.1⟩;by_cases h0:d.1=0;·obtain⟨c,hc,hm⟩:=Xd (λc=>c.2.2.2) (l:=l.filter λc=>decide (c.1=0∧c.2.2.1=d.2.2.1)) (List.ne_nil_of_mem (List.mem_filter.2 ⟨hd,by simp[h0]⟩));obtain⟨hcl,Gr⟩:=List.mem_filter.1 hc;simp only[ZAC]at Gr;have hL:Lm l c:=⟨hcl,λ_ e he h1 h2=>hm e (List.mem_filter.2 ⟨he,by simp[h1,h2,Gr.2]⟩)⟩;have h1:=(F4 Gr.1 x).1 (h c hL);have h2:=hm d (List.mem_filter.2 ⟨hd,by simp[h0]⟩);rw[F4 h0];unfold BP at h1⊢;rw[Gr.2]at h1;omega
 ·exact h d ⟨hd,λe=>absurd e h0⟩
theorem dL{n:Nat}{c:O}(h:Mk n c)(h0:c.1=0)(x:List Int):Ao (EW c) x=true↔BP c x=0:=by have hs:=(OZ (c:=(1,0,c.2.2)) (.inr (.inl rfl)) x).1 (by have hg:=h.gcd h0;simp[AV,Bt,hg,ZC9]);rw[show EW c=(AV (1,0,c.2.2)).1 from rfl,hs,Ko rfl];rfl
theorem Qb{c d:O}(h:d.2.2.1=Al c.2.2.1)(x:List Int):BP d x=d.2.2.2+c.2.2.2-BP c x:=by unfold BP;rw[h,SH];omega
theorem WA{n:Nat}{L:O→Prop}(hm:∀c,L c→Mk n c){x:List Int}:JB (MM L) x↔JB L x:=by
 constructor
 ·intro h c hc;by_cases hO:c.1=0∧Dm L c;·have :=(dL (hm c hc) hO.1 x).1 (h _ (.inr ⟨c,hc,hO.1,hO.2,rfl⟩));rw[F4 hO.1];omega
  ·exact h c (.inl ⟨hc,λh0 ho=>hO ⟨h0,ho⟩⟩)
 ·rintro h c(⟨hc,_⟩|⟨d,hd,h0,⟨e,he,h1,h2,h3⟩,rfl⟩);·exact h c hc
  ·rw[dL (hm d hd) h0];have a1:=(F4 h0 x).1 (h d hd);have a2:=(F4 h1 x).1 (h e he);rw[Qb h2]at a2;omega
theorem fW{L:O→Prop}{x:List Int}(h:G2 L):¬JB L x:=λha=>by obtain⟨c,d,hc,hd,h0,h1,h2,h3⟩:=h;have a1:=(F4 h0 x).1 (ha c hc);have a2:=(F4 h1 x).1 (ha d hd);rw[Qb h2]at a2;omega
theorem VW{c d:O}(h:d.2.2.1=c.2.2.1)(x:List Int):BP d x=d.2.2.2-c.2.2.2+BP c x:=by unfold BP;rw[h];omega
theorem fX{M:O→Prop}{x:List Int}(h:GH M):¬JB M x:=λha=>by
 rcases h with⟨e,f,he,hf,h1,h2,h3,h4⟩|⟨c,e,hc,he,h0,h1,⟨h2,h3⟩|⟨h2,h3⟩⟩;·have a1:=(Ko h1 x).1 (ha e he);have a2:=(Ko h2 x).1 (ha f hf);rw[VW h3]at a1;omega
 ·have a1:=(F4 h0 x).1 (ha c hc);have a2:=(Ko h1 x).1 (ha e he);rw[VW h2]at a2;omega
 ·have a1:=(F4 h0 x).1 (ha c hc);have a2:=(Ko h1 x).1 (ha e he);rw[Qb h2]at a2;omega
theorem fP{M:O→Prop}{x:List Int}(hv:¬GH M):JB (I9 M) x↔JB M x:=by
 refine⟨λh c hc=>?_,λh c hc=>h c hc.1⟩;by_cases hf:I9 M c;·exact h c hf
 ·have h0:c.1=0:=ZAf λh0=>hf ⟨hc,λe=>absurd e h0⟩;have :∃e,M e∧e.1=1∧(e.2.2.1=c.2.2.1∨e.2.2.1=Al c.2.2.1):=ZAf λhn=>hf ⟨hc,λ_ e he h1=>⟨λh2=>hn ⟨e,he,h1,.inl h2⟩,λh2=>hn ⟨e,he,h1,.inr h2⟩⟩⟩;obtain⟨e,he,h1,h2⟩:=this;have a2:=(Ko h1 x).1 (h e ⟨he,λe0=>by omega⟩);rw[F4 h0];rcases h2 with h2|h2;·have :¬c.2.2.2<e.2.2.2:=λh3=>hv (.inr ⟨c,e,hc,he,h0,h1,.inl ⟨h2,h3⟩⟩);rw[VW h2]at a2;omega
  ·have :¬c.2.2.2+e.2.2.2<0:=λh3=>hv (.inr ⟨c,e,hc,he,h0,h1,.inr ⟨h2,h3⟩⟩);rw[Qb h2]at a2;omega
theorem dK{p:List O}{n:Nat}(hb:A2 p)(hd:Am p n)(hv:CD p=false)(h1:¬G2 (Lm (Ai p)))(h2:¬GH (MM (Lm (Ai p)))):∃m:List O,∀x,x∈m↔I9 (MM (Lm (Ai p))) x:=by
 have hl:=Oa hb hd;have e:(λx=>x∈B8 (Ai p))=Lm (Ai p):=funext λx=>propext (MR hl x);have hL:∀c∈B8 (Ai p),Mk n c:=QU (λd c hd _=>Z7 hd) hl;have hu:RV (B8 (Ai p)):=λc hc d hd h0 h1 h=>Lm.uniq hl ((MR hl c).1 hc) ((MR hl d).1 hd) h0 h1 h;obtain⟨Kf,Iw⟩:=bB hL hu;rw[e]at Kf Iw;rcases Co (E9 (B8 (Ai p)))with h3|⟨M,h3⟩;·exact absurd (Kf h3) h1
 ·obtain⟨Ke,hM⟩:=Iw M h3;have eM:(λx=>x∈M)=MM (Lm (Ai p)):=funext λx=>propext (hM x);have Fv:∀c∈M,Mk n c:=Uz (λc h0 hc=>(Hy hc h0).1) hL h3;obtain⟨C8,Eb⟩:=cG Fv;rw[eM]at C8 Eb;rcases Co (FE M)with h4|⟨out,h4⟩;·exact absurd (C8 h4) h2
  ·exact⟨out,(Eb out h4).2⟩
theorem dH{p:List O}{n:Nat}(hb:A2 p)(hd:Am p n)(x:List Int)(h3:(Aa p).2.2=0):((Aa p).2.1=true→BD p x=false)∧((Aa p).2.1=false→BD (Aa p).1 x=BD p x):=by
 by_cases hv:CD p=true
 ·have e:Aa p=([],true,0):=by have :=If p;rw[hv]at this;simpa using this
  rw[e];exact⟨λ_=>tK hb x hv,λh=>by cases h⟩
 ·have hv:CD p=false:=by simpa using hv
  obtain⟨s1,s2⟩:=RB hb hd hv;have hl:=Oa hb hd;have Ip:∀c,Lm (Ai p) c→Mk n c:=λc hc=>hl c hc.1;have base:JB (MM (Lm (Ai p))) x↔BD p x=true:=by rw[WA Ip,fR,←MO,tH hb x hv]
  by_cases hw:G2 (Lm (Ai p))∨GH (MM (Lm (Ai p)))
  ·rw[s1 hw];refine⟨λ_=>?_,λh=>by cases h⟩;rw[←ZA9,←base];rcases hw with h|h;·rw[WA Ip];exact fW h
   ·exact fX h
  ·have hw1:¬G2 (Lm (Ai p)):=λh=>hw (.inl h);have HT:¬GH (MM (Lm (Ai p))):=λh=>hw (.inr h);obtain⟨m,hm⟩:=dK hb hd hv hw1 HT;have Ex:K3 m:=λc hc=>by
    rcases((hm c).1 hc).1 with⟨h,_⟩|⟨d,h,h0,_,rfl⟩;·exact(Ip c h).2.1
    ·exact(Hy (Ip d h) h0).1.2.1
   rw[s2 hw1 HT m hm]at h3⊢;split at h3;·cases h3
   ·rename_i hc;rw[yP hc];refine⟨λh=>(by cases h),λ_=>?_⟩;rw[ZAc,←base,←fP HT,MO];constructor;·intro h c hc;exact h c ((Jr Ex c).2 ((hm c).2 hc))
    ·intro h c hc;exact h c ((hm c).1 ((Jr Ex c).1 hc))
def Ac(l:List (List O))(x:List Int):Bool:=l.any λp=>BD p x
theorem MP{l:List (List O)}{x:List Int}:Ac l x=true↔∃p∈l,BD p x=true:=by simp[Ac]
theorem QN(a b:List (List O))(x:List Int):Ac (a++b) x=(Ac a x||Ac b x):=by simp[Ac]
theorem vQ{out out':List (List O)}{p:List O}{n:Nat}(hb:A2 p)(hd:Am p n)(x:List Int)(h:BB out p=some out'):Ac out' x=(Ac out x||BD p x):=by
 unfold BB at h;split at h;·cases h
 ·rename_i h3;have h3:(Aa p).2.2=0:=by simpa using h3
  obtain⟨t1,t2⟩:=dH hb hd x h3;split at h
  ·rename_i h4;cases h;by_cases hv:(Aa p).2.1=true;·rw[t1 hv,ZBL]
   ·have hv:(Aa p).2.1=false:=by simpa using hv
    have hm:=h4.resolve_left (by rw[hv];simp);rw[←t2 hv];cases hq:BD (Aa p).1 x with|false=>rw[ZBL]|true=>rw[ZBD];exact MP.2 ⟨_,hm,hq⟩
  ·rename_i h4;split at h;·cases h
   ·cases h;have hv:(Aa p).2.1=false:=by cases hv:(Aa p).2.1 with|false=>rfl|true=>exact absurd (.inl hv) h4
    rw[QN,←t2 hv];simp[Ac]
theorem Vi{n:Nat}(x:List Int):∀{l out out':List (List O)},(∀p∈l,A2 p∧Am p n)→l.foldlM BB out=some out'→Ac out' x=(Ac out x||Ac l x)|[],out,out',_,h=>by cases h;simp[Ac]|p::l,out,out',hl,h=>by rw[zQ]at h;obtain⟨o1,h1,h2⟩:=Option.bind_eq_some_iff.1 h;obtain⟨hb,hd⟩:=hl p (by simp);rw[Vi x (λq hq=>hl q (zD _ hq)) h2,vQ hb hd x h1,Bool.or_assoc];congr 1
theorem Q8{n:Nat}(x:List Int){l out:List (List O)}(hl:∀p∈l,A2 p∧Am p n)(h:B7 l=some out):Ac out x=Ac l x:=by rw[Vi x hl h];simp[Ac]
theorem Jk{n:Int}{o:Option (List (List O))}(h:(CW n o).2=0):∃out,o=some out∧(CW n o).1=(n,out):=by cases o with|none=>simp[CW]at h|some out=>exact⟨out,rfl,rfl⟩
theorem ON{s:AG}(x:List Int)(h:(A1 s).2=0):Ac (A1 s).1.2 x=Ac s.2 x∧(A1 s).1.1=s.1∧AD s=true:=by
 unfold A1 at h⊢;split at h;·simp at h
 ·rename_i hv;have hv:AD s=true:=by simpa using hv
  rw[yP (by rw[hv];simp)];obtain⟨out,h1,h2⟩:=Jk h;rw[h2];exact⟨Q8 x (λp hp=>AD.D hv hp) h1,rfl,hv⟩
theorem LQ{a b:AG}(h:Dn a b=0):AD a=true∧AD b=true∧a.1=b.1:=by
 unfold Dn at h;split at h
 ·rename_i hv;rw[zN]at hv;split at h;·rename_i he;exact⟨hv.1,hv.2,he⟩
  ·cases h
 ·cases h
theorem dU{a b:AG}(x:List Int)(h:(Er a b).2=0):Ac (Er a b).1.2 x=(Ac a.2 x||Ac b.2 x)∧(Er a b).1.1=a.1:=by
 unfold Er at h⊢;split at h;·rename_i h0;exact absurd h h0
 ·rename_i h0;obtain⟨ha,hb,he⟩:=LQ (by simpa using h0);rw[yP h0];obtain⟨out,h1,h2⟩:=Jk h;rw[h2];refine⟨?_,rfl⟩;rw[Q8 (n:=a.1.toNat) x (λp hp=>?_) h1,QN];rcases List.mem_append.1 hp with hp|hp;·exact AD.D ha hp
  ·rw[he];exact AD.D hb hp
theorem rP(a b:List (List O))(x:List Int):Ac (EO a b) x=(Ac a x&&Ac b x):=by
 rw[ZAc,zN,MP,MP,MP];constructor;·rintro⟨p,hp,hx⟩;simp only[EO,ZBa,ZAb]at hp;obtain⟨q,hq,r,hr,rfl⟩:=hp;rw[JZ,zN]at hx;exact⟨⟨q,hq,hx.1⟩,r,hr,hx.2⟩
 ·rintro⟨⟨q,hq,h1⟩,r,hr,h2⟩;refine⟨q++r,?_,by rw[JZ,h1,h2];rfl⟩;simp only[EO,ZBa,ZAb];exact⟨q,hq,r,hr,rfl⟩
theorem Z6{a b:AG}(x:List Int)(h:(Ef a b).2=0):Ac (Ef a b).1.2 x=(Ac a.2 x&&Ac b.2 x)∧(Ef a b).1.1=a.1:=by
 unfold Ef at h⊢;split at h;·rename_i h0;exact absurd h h0
 ·rename_i h0;obtain⟨ha,hb,he⟩:=LQ (by simpa using h0);rw[yP h0];obtain⟨out,h1,h2⟩:=Jk h;rw[h2];refine⟨?_,rfl⟩;rw[Q8 (n:=a.1.toNat) x (λp hp=>?_) h1,rP];simp only[EO,ZBa,ZAb]at hp;obtain⟨q,hq,r,hr,rfl⟩:=hp;have hD:=O6 (n:=a.1.toNat) (AD.piece ha hq) (AD.piece hb hr) (AD.D ha hq).2 (by rw[he];exact(AD.D hb hr).2);refine⟨hD.1,λc hc=>?_⟩;rcases List.mem_append.1 hc with hc|hc;·exact(AD.D ha hq).2 c hc
  ·rw[he];exact(AD.D hb hr).2 c hc
theorem sI{c:O}(hv:AJ c=true)(x:List Int):(∃o∈Bh c,Ao o x=true)↔Ao c x=false:=by
 unfold Bh;rcases AJ.kind hv with⟨h,_⟩|⟨h,_⟩|⟨h,Dd,HI⟩;·rw[yS h,←ZA9,F4 h];simp only[zC,exists_eq_left];rw[F4 rfl];simp only[BP,GX,XK];omega
 ·rw[yP (by omega),yS h,←ZA9,Ko h];simp only[zO,ZBo,ZCY,exists_eq_or_imp,exists_eq_left];rw[F4 rfl,F4 rfl];simp only[BP,GX,XK];omega
 ·rw[yP (by omega),yP (by omega)];have hd:∀d:O,d.1=2→Ao d x=decide (d.2.1∣BP d x):=λd h2=>by simp only[Ao,FH,h2,BP,show¬(2:Int)=0 by omega,show¬(2:Int)=1 by omega,ZAY];exact Vm
  rw[hd c h,ZAU];simp only[ZAb,ZDU];have hat:∀r:Nat,BP ((2,c.2.1,c.2.2.1,c.2.2.2-((r:Int)+1)):O) x=BP c x-((r:Int)+1):=λr=>by simp only[BP];omega
  have Ag:0<c.2.1:=by omega
  have h3:=ZCZ (BP c x) c.2.1;have h4:=ZBS (BP c x) (b:=c.2.1) (by omega);have h5:=ZBH (BP c x) Ag;constructor;·rintro⟨o,⟨r,hr,rfl⟩,ho⟩hn;rw[hd _ rfl,ZAC,hat]at ho;simp only at ho;have h6:c.2.1∣(r:Int)+1:=(Int.dvd_iff_dvd_of_dvd_sub ho).1 hn;have :=Int.le_of_dvd (by omega) h6;omega
  ·intro hn;have h6:BP c x%c.2.1≠0:=λe=>hn (Int.dvd_of_emod_eq_zero e);refine⟨_,⟨(BP c x%c.2.1-1).toNat,by omega,rfl⟩,?_⟩;rw[hd _ rfl,ZAC,hat];simp only;refine⟨BP c x/c.2.1,?_⟩;omega
theorem vV(n:Nat)(x:List Int):Ao (0,0,List.replicate n 0,0) x=true:=by rw[F4 rfl];have :Az (List.replicate n (0:Int)) x=0:=SI (λm hm=>List.eq_of_mem_replicate hm) x;simp[BP,this]
theorem aM{n:Nat}(x:List Int):∀{l out out':List O},(∀o∈l,OE o)→l.foldlM (E7 n) out=some out'→((∃o∈out',Ao o x=true)↔(∃o∈out,Ao o x=true)∨∃o∈l,Ao o x=true)
 |[],out,out',_,h=>by cases h;simp|c::l,out,out',hl,h=>by
  rw[zQ]at h;obtain⟨o1,h1,h2⟩:=Option.bind_eq_some_iff.1 h;rw[aM x (λo ho=>hl o (zD _ ho)) h2];have hs:=OZ (hl c (by simp)) x;have key:(∃o∈o1,Ao o x=true)↔(∃o∈out,Ao o x=true)∨Ao c x=true:=by
   have hm:∀h:(Cb c).2.2=0,(Cb c).1=(AV c).1∧(Cb c).2.1=(AV c).2:=λh=>by
    unfold Cb at h⊢;split at h;·cases h
    ·rename_i hc;rw[yP hc];exact⟨rfl,rfl⟩
   unfold E7 at h1;split at h1;·cases h1
   ·rename_i h0;obtain⟨m1,m2⟩:=hm (by simpa using h0);rw[m1,m2]at h1;split at h1;·rename_i hp;cases h1;have ht:=vV n x;simp only[zM,zC,hs.2.1 hp,or_true,iff_true];exact⟨_,.inr rfl,ht⟩
    ·rename_i hp;split at h1;·rename_i hn;cases h1;rw[hs.2.2 hn];simp
     ·rename_i hn;cases h1;rw[←hs.1 (by omega)];simp only[zM,zC];constructor
      ·rintro⟨o,ho|rfl,hx⟩;·exact .inl ⟨o,ho,hx⟩
       ·exact .inr hx
      ·rintro(⟨o,ho,hx⟩|hx);·exact⟨o,.inl ho,hx⟩
       ·exact⟨_,.inr rfl,hx⟩
  rw[key];simp only[zO,exists_eq_or_imp,ZDd]
theorem sJ{c o:O}(hv:AJ c=true)(h:o∈Bh c):OE o:=by
 unfold Bh at h;rcases AJ.kind hv with⟨h0,_⟩|⟨h0,_⟩|⟨h0,Dd,HI⟩;·rw[yS h0]at h;simp only[zC]at h;subst h;exact .inl rfl
 ·rw[yP (by omega),yS h0]at h;simp only[zO,ZBo,ZCY]at h;rcases h with rfl|rfl<;>exact .inl rfl
 ·rw[yP (by omega),yP (by omega)]at h;simp only[ZAb]at h;obtain⟨r,_,rfl⟩:=h;exact .inr (.inr ⟨rfl,Dd,by show c.2.1≤_;omega⟩)
theorem rZ{c:O}(hv:AJ c=true)(x:List Int)(h:(B4 c).2=0):(∃o∈(B4 c).1,Ao o x=true)↔Ao c x=false:=by
 unfold B4 at h⊢;rw[yP (by rw[hv];simp)]at h⊢;split at h;·cases h
 ·rename_i out ho;split at h;·cases h
  ·rename_i hl;rw[yP hl];rw[aM x (λo ho=>sJ hv ho) ho,←sI hv x];simp
theorem XB{a b:List O}(hb:∀c∈b,AJ c=true)(x:List Int):∀{k:Nat}{out:List (List O)},k≤b.length→(List.range k).foldlM (EY a b) []=some out→Ac out x=(BD a x&&!BD (b.take k) x)
 |0,out,_,h=>by cases h;simp[Ac,BD]|k+1,out,hk,h=>by
  rw[ZDJ,ZAz]at h;obtain⟨o1,h1,h2⟩:=Option.bind_eq_some_iff.1 h;simp only[zQ,List.foldlM_nil]at h2;obtain⟨o2,h2,h3⟩:=Option.bind_eq_some_iff.1 h2;cases h3;have ih:=XB hb x (by omega) h1;unfold EY at h2;split at h2;·cases h2
  ·rename_i h0;cases h2;have hm:b.getD k U∈b:=AX (by omega);have hn:=rZ (hb _ hm) x (by simpa using h0);rw[QN,ih,BN U (by omega:k<b.length),JZ];have e:Ac ((B4 (b.getD k U)).1.map λo=>a++(b.take k++[o])) x=(BD a x&&(BD (b.take k) x&&!Ao (b.getD k U) x)):=by
    rw[ZAc,MP];simp only[ZAb,zN,ZCT];rw[←hn];constructor;·rintro⟨p,⟨o,ho,rfl⟩,hx⟩;rw[JZ,JZ,zN,zN]at hx;exact⟨hx.1,hx.2.1,o,ho,by simpa[BD]using hx.2.2⟩
    ·rintro⟨h1,h2,o,ho,hx⟩;exact⟨_,⟨o,ho,rfl⟩,by rw[JZ,JZ,h1,h2];simp[BD,hx]⟩
   rw[e];have e1:BD [b.getD k U] x=Ao (b.getD k U) x:=by simp[BD]
   rw[e1];cases BD a x<;>cases BD (b.take k) x<;>cases Ao (b.getD k U) x<;>rfl
theorem iR{a b:List O}{n:Nat}(ha:Bs a)(hb:Bs b)(G8:Am a n)(P2:Am b n)(x:List Int)(h:(Bn a b).2=0):Ac (Bn a b).1 x=(BD a x&&!BD b x):=by
 have hB:A2 (a++b):=⟨by have :=ha.1;have :=hb.1;rw[yU];omega,λc hc=>(List.mem_append.1 hc).elim (λh=>AJ.condB (ha.2 c h)) λh=>AJ.condB (hb.2 c h)⟩;have hD:Am (a++b) n:=λc hc=>(List.mem_append.1 hc).elim (λh=>G8 c h) λh=>P2 c h;unfold Bn at h⊢;split at h;·cases h
 ·rename_i h0;rw[yP h0];split at h
  ·rename_i h1;rw[yS h1];have :=(dH hB hD x (by simpa using h0)).1 h1;rw[JZ]at this;have e:Ac [a] x=BD a x:=by simp[Ac]
   rw[e];cases xF:BD a x<;>cases xI:BD b x<;>simp_all
  ·rename_i h1;rw[yP h1];split at h;·cases h
   ·rename_i out ho;show Ac out x=_;rw[XB hb.2 x (zB _) ho,zA]
def PD(n:Nat)(l:List (List O)):Prop:=PP l∧∀p∈l,Am p n
theorem PD.at{n:Nat}{l:List (List O)}(h:PD n l){p:List O}(hp:p∈l):Bs p∧Am p n:=⟨h.1.v hp,h.2 p hp⟩
theorem iV{a b:List O}{n:Nat}(ha:Bs a)(G8:Am a n)(hb:Bs b)(Ds:Am b n){out o1:List (List O)}(h:Gm b out a=some o1)(hd:∀p∈out,Am p n)(x:List Int):(∀p∈o1,Am p n)∧Ac o1 x=(Ac out x||BD a x&&!BD b x):=by
 unfold Gm at h;split at h;·cases h
 ·rename_i h0;have h0:(Bn a b).2=0:=by simpa using h0
  have hB:∀p∈(Bn a b).1,A2 p∧Am p n:=λp hp=>⟨(M5 ha hb).2 p hp,SB G8 hb Ds p hp⟩;exact⟨Om h hd hB,by rw[Vi (n:=n) x hB h,iR ha hb G8 Ds x h0]⟩
theorem XD{b:List O}{n:Nat}(hb:Bs b)(Ds:Am b n)(x:List Int):∀{l out out':List (List O)},(∀a∈l,Bs a∧Am a n)→(∀p∈out,Am p n)→l.foldlM (Gm b) out=some out'→(∀p∈out',Am p n)∧Ac out' x=(Ac out x||Ac l x&&!BD b x)
 |[],out,out',_,hd,h=>by cases h;exact⟨hd,by simp[Ac]⟩|a::l,out,out',hl,hd,h=>by
  rw[zQ]at h;obtain⟨o1,h1,h2⟩:=Option.bind_eq_some_iff.1 h;obtain⟨ha,G8⟩:=hl a (by simp);obtain⟨k1,k2⟩:=iV ha G8 hb Ds h1 hd x;obtain⟨k3,k4⟩:=XD hb Ds x (λq hq=>hl q (zD _ hq)) k1 h2;refine⟨k3,?_⟩;rw[k4,k2];have e2:Ac (a::l) x=(BD a x||Ac l x):=by simp[Ac]
  rw[e2];cases Ac out x<;>cases BD a x<;>cases Ac l x<;>cases BD b x<;>rfl
theorem aA{cur cur':List (List O)}{b:List O}{n:Nat}(hb:Bs b)(Ds:Am b n)(hc:PD n cur)(x:List Int)(h:Gv cur b=some cur'):PD n cur'∧Ac cur' x=(Ac cur x&&!BD b x):=by obtain⟨k1,k2⟩:=XD hb Ds x (l:=cur) (out:=[]) (λa ha=>hc.at ha) (by simp) h;exact⟨⟨Z9 h hb hc.1,k1⟩,by rw[k2];simp[Ac]⟩
theorem Uh{n:Nat}(x:List Int):∀{l cur cur':List (List O)},PD n cur→(∀b∈l,Bs b∧Am b n)→l.foldlM Gv cur=some cur'→PD n cur'∧Ac cur' x=(Ac cur x&&!Ac l x)
 |[],cur,cur',hc,_,h=>by cases h;exact⟨hc,by simp[Ac]⟩|b::l,cur,cur',hc,hl,h=>by
  rw[zQ]at h;obtain⟨o1,h1,h2⟩:=Option.bind_eq_some_iff.1 h;obtain⟨hb,Ds⟩:=hl b (by simp);obtain⟨k1,k2⟩:=aA hb Ds hc x h1;obtain⟨k3,k4⟩:=Uh x k1 (λq hq=>hl q (zD _ hq)) h2;refine⟨k3,?_⟩;rw[k4,k2];have e2:Ac (b::l) x=(BD b x||Ac l x):=by simp[Ac]
  rw[e2];cases Ac cur x<;>cases Ac l x<;>cases BD b x<;>rfl
theorem OL{s:AG}(h:(A1 s).2=0):PD s.1.toNat (A1 s).1.2:=⟨(OM h).1,Ur (ON [] h).2.2 h⟩
theorem Kt{a b:AG}(h:(BQ a b).2=0):(AD a=true∧AD b=true∧a.1=b.1)∧PD a.1.toNat (BQ a b).1.2∧(BQ a b).1.1=a.1∧∀x,Ac (BQ a b).1.2 x=(Ac a.2 x&&!Ac b.2 x):=by
 unfold BQ at h⊢;split at h;·rename_i h0;exact absurd h h0
 ·rename_i h0;obtain⟨ha,hb,he⟩:=LQ (by simpa using h0);rw[yP h0];split at h;·cases h
  ·rename_i h1;rw[yP h1];have n1:(A1 a).2=0:=ZAf λh=>h1 (.inl h);have n2:(A1 b).2=0:=ZAf λh=>h1 (.inr h);obtain⟨out,h2,h3⟩:=Jk h;rw[h3];have hb2:=OL n2;have key:=λx=>Uh x (OL n1) (λb' hb'=>by rw[he];exact hb2.at hb') h2;refine⟨⟨ha,hb,he⟩,(key []).1,rfl,λx=>?_⟩;rw[(key x).2,(ON x n1).1,(ON x n2).1]
theorem uH{n:Int}{l:List (List O)}(h0:0≤n)(h1:n≤12)(h:PD n.toNat l):AD (n,l)=true:=by obtain⟨⟨k1,k2⟩,k3⟩:=h;simp only[AD,zN,ZAC,ZAP,DN];refine⟨⟨⟨h0,h1⟩,by omega⟩,λp hp=>⟨by have :=(k2 p hp).1;omega,λc hc=>⟨(k2 p hp).2 c hc,?_⟩⟩⟩;have :=k3 p hp c hc;rw[ZB0,this];omega
theorem O0{n:Nat}{l:List (List O)}(h:PD n l){x:List Int}(hx:x.length=n)(hc:x.all Bm=true):∀p∈l,∀c∈p,JC c x:=λp hp c Gr=>⟨(h.1.2 p hp).2 c Gr,by rw[h.2 p hp c Gr,hx],List.all_eq_true.1 hc⟩
theorem cD{s:AG}(h:AD s=true):PD s.1.toNat s.2:=by have hb:=AD.b h;exact⟨⟨hb.2.2.1,λp hp=>AD.piece h hp⟩,λp hp=>(AD.D h hp).2⟩
theorem TR{s:AG}{x:List Int}(h:(EZ s x).2=0):AD s=true∧x.length=s.1.toNat∧x.all Bm=true∧(EZ s x).1=Ac s.2 x:=by
 unfold EZ at h⊢;split at h;·cases h
 ·rename_i h0;split at h;·cases h
  ·rename_i h1;split at h;·cases h
   ·rename_i h2;have hv:AD s=true:=by simpa using h0
    have hl:x.length=s.1.toNat:=by omega
    have hc:x.all Bm=true:=by simpa using h2
    refine⟨hv,hl,hc,?_⟩;rw[yP h0,yP h1,yP h2];show(s.2.any λq=>!q.any λc=>!(F1 c x).1)=_;rw[ZAc,ZBN,MP];have hat:=O0 (cD hv) hl hc;constructor;·rintro⟨p,hp,h⟩;refine⟨p,hp,MO.2 λc Gr=>?_⟩;simp only[ZCT,ZB4]at h;have :=h c Gr;rw[PU (hat p hp c Gr)]at this;simpa using this
    ·rintro⟨p,hp,h⟩;refine⟨p,hp,?_⟩;simp only[ZCT,ZB4];intro c Gr;rw[PU (hat p hp c Gr)];simpa using MO.1 h c Gr
theorem eB(x:List Int):Ac [[]] x=true:=by simp[Ac,BD]
theorem law04_SetApart.spec(b:AG)(x:List Int):law04_SetApart.wp b x λr=>r=true:=by unfold law04_SetApart.wp;have eH:D9.fn (b,(x,()))=EZ b x:=rfl;have eM:∀a b:AG,C3.fn (a,(b,()))=BQ a b:=λ_ _=>rfl;simp only[eH,eM,Ak.fn];generalize BK.fn ((6:Int),((8:Int),([b],())))=few;cases few with|false=>simp|true=>
 simp only[zU,yN];by_cases hn:b.1<0∨12<b.1;·have hW:Cg.fn (b.1,())=((0,[]),6):=yS hn;simp[hW]
 ·have hW:Cg.fn (b.1,())=((b.1,[[]]),0):=yP hn;simp only[hW,zJ,ZAu,ZBC,ZCB,ZBq];by_cases hH:(EZ b x).2=0
  ·by_cases hM:(BQ (b.1,[[]]) b).2=0
   ·obtain⟨hv,hl,hc,hin⟩:=TR hH;obtain⟨_,Pv,YQ,YS⟩:=Kt hM;simp only[hH,hM,zJ,ZAu,ZBC,yN,ZCB,ZBq];have hB:EZ b x=(Ac b.2 x,0):=by rw[←hin,←hH]
    have QC:∀y,Ac (BQ (b.1,[[]]) b).1.2 y=!Ac b.2 y:=λy=>by rw[YS y,eB];rfl
    have hpre:∀{n:Int}{s:AG},n=b.1→PD n.toNat s.2→Ax.pre (s,(x,())):=λ{n s}e h=>by subst e;exact O0 h hl hc
    have YO:∀s:AG,Ax.fn (s,(x,()))=Ac s.2 x:=λ_=>rfl;have hIn:∀p:List O,DB.fn (p,(x,()))=BD p x:=λ_=>rfl;simp only[YO,hIn,hB,QC];refine⟨hpre rfl Pv,?_⟩;have e0:((!Ac b.2 x)==Ac b.2 x)=false:=by cases Ac b.2 x<;>rfl
    rw[e0];simp only[yN];have UA:(BQ b b).2=0→Ac (BQ b b).1.2 x=false:=λh=>by rw[(Kt h).2.2.2];cases Ac b.2 x<;>rfl
    have mK:(BQ (b.1,[[]]) (BQ (b.1,[[]]) b).1).2=0→Ac (BQ (b.1,[[]]) (BQ (b.1,[[]]) b).1).1.2 x=Ac b.2 x:=λh=>by rw[(Kt h).2.2.2,eB,QC];cases Ac b.2 x<;>rfl
    have hm:=QC x;have Kf:∀p∈(BQ (b.1,[[]]) b).1.2,DB.pre (p,(x,())):=λp hp=>O0 Pv hl hc p hp;have hlen:=Pv.1.1;have q1:(BQ b b).2=0→Ax.pre ((BQ b b).1,(x,())):=λh=>hpre rfl (Kt h).2.1;have q2:(BQ (b.1,[[]]) (BQ (b.1,[[]]) b).1).2=0→Ax.pre ((BQ (b.1,[[]]) (BQ (b.1,[[]]) b).1).1,(x,())):=λh=>hpre rfl (Kt h).2.1;clear hM Pv YQ YS QC hB hin hH eH eM hpre YO hIn;generalize BQ (b.1,[[]]) (BQ (b.1,[[]]) b).1=M2 at*;generalize BQ b b=M1 at*;generalize(BQ (b.1,[[]]) b).1.2=m at*;have fin:∀k:Int,(0<k↔Ac m x=true)→(decide (0<k)==!Ac b.2 x)=true:=λk hk=>by rw[ZB0,←hm,ZAc,ZAC,hk]
    refine Lp.iter m.length (λi z=>∃k:Int,z=((i:Int),k)∧0≤k∧k≤i∧(0<k↔Ac (m.take i) x=true)) ⟨0,rfl,ZAr _,ZAr _,by simp[Ac]⟩ ?_;rintro i z hi⟨k,rfl,h0,h1,h2⟩R hR;by_cases e:i<m.length
    ·simp only[yO (show(i:Int)<(m.length:Int)by omega),yQ,yR];refine⟨⟨by omega,by omega⟩,Kf _ (AX e),?_⟩;have Hk:AB IntKind.i64 (k+1):=⟨by omega,by omega⟩;have KX:AB IntKind.i64 ((i:Int)+1):=⟨by omega,by omega⟩;have ht:Ac (m.take (i+1)) x=(Ac (m.take i) x||BD (m.getD i []) x):=by rw[BN [] e,QN];simp[Ac]
     cases hq:BD (m.getD i []) x with|true=>exact⟨Hk,KX,hR e _ ⟨k+1,rfl,by omega,by omega,by rw[ht,hq,ZBD];simp;omega⟩⟩|false=>exact⟨KX,hR e _ ⟨k,rfl,h0,by omega,by rw[ht,hq,ZBL];exact h2⟩⟩
    ·have KZ:i=m.length:=by omega
     subst KZ;rw[zA]at h2;have HH:=fin k h2;simp only[yV (show¬(m.length:Int)<(m.length:Int)by omega),yN,HH,ZCB,ZBq,ZBt];refine⟨λh=>⟨h,h,q1 (by simpa using h)⟩,?_⟩;have a1:(M1.2==0&&Ac M1.1.2 x)=false:=by
      by_cases h:M1.2=0;·rw[UA h,ZB7]
      ·simp[h]
     have a2:(M2.2==0&&Ac M2.1.2 x !=Ac b.2 x)=false:=by
      by_cases h:M2.2=0;·rw[mK h];simp
      ·simp[h]
     rw[a1,a2];simp only[yN];by_cases DK:(m.length:Int)≤12;·simp only[yO DK,yR];exact⟨λh=>h,λh=>⟨h,h,q2 (by simpa using h)⟩,λh=>⟨h,h,trivial⟩,λh=>h,trivial⟩
     ·simp[DK]
   ·simp[hH,hM]
  ·simp[hH]
set_option maxRecDepth 4000
abbrev GC.fn(x:O×Unit):Bool:=!AJ x.1
def Uk(s:AG)(l:List O):AG×Int:=CW s.1 (B7 (s.2.map (·++l)))
abbrev EC.fn(x:AG×List O×Unit):AG×Int:=Uk x.1 x.2.1
abbrev EC.pre(x:AG×List O×Unit):Prop:=AD x.1=true∧A2 x.2.1∧x.2.1.length≤4096
def Hz(s:AG)(l:List O):AG×Int:=if AD s=false∨(l.any λc=>!AJ c)=true then((0,[]),1)else if DN l s.1=false then((0,[]),2)else Uk s l
abbrev DR.fn(x:AG×List O×Unit):AG×Int:=Hz x.1 x.2.1
abbrev DR.pre(x:AG×List O×Unit):Prop:=x.2.1.length≤4096
abbrev DQ.fn(x:AG×List O×Unit):AG×Int:=Hz x.1 x.2.1
abbrev DQ.pre(x:AG×List O×Unit):Prop:=x.2.1.length≤4096
def BV(C:List Int)(i:Nat):List Int:=C.take i++C.drop (i+1)
def EK(i:Nat)(v:Int)(c:O):O:=(c.1,c.2.1,BV c.2.2.1 i,c.2.2.2+v*c.2.2.1.getD i 0)
def DC(s:AG)(i v:Int):AG×Int:=if AD s=false then((0,[]),1)else if i<0∨s.1≤i∨v< -4294967296∨4294967296<v then((0,[]),6)else CW (s.1-1) (B7 (s.2.map λp=>p.map (EK i.toNat v)))
abbrev Dh.fn(x:AG×Int×Int×Unit):AG×Int:=DC x.1 x.2.1 x.2.2.1
abbrev FD.fn(x:AG×Int×Int×Unit):AG×Int:=DC x.1 x.2.1 x.2.2.1
abbrev D2.fn(x:AT×Int×Unit):AT:=(BV x.1.1 x.2.1.toNat,x.1.2)
abbrev D2.pre(x:AT×Int×Unit):Prop:=x.1.1.length≤1048576∧0≤x.2.1∧x.2.1<(x.1.1.length:Int)
def GC.wp(x0:O)(Q:Bool→Prop):Prop:=Q ! BW.fn (x0,())
def EC.wp(x0:Int×List (List O))(x1:List O)(Q:(Int×List (List O))×Int→Prop):Prop:=Lp (σ:=Int×List (List O)×(ByteArray→Option Bool)) (λy3 R3=>let v0:=x0.2.getD y3.1.toNat ([]:List O);let v1:=CE.fn ([v0,x1],());let v2:=BT.fn ((AE.fn (v1,())).1,());let v4:=[(AE.fn (v1,())).1];cond (decide (y3.1<x0.2.length)) ((0≤y3.1∧y3.1<x0.2.length)∧CE.pre ([v0,x1],())∧AE.pre (v1,())∧cond (((AE.fn (v1,())).2).2 !=0) (cond (((AE.fn (v1,())).2).2 !=0) (Q ((0,([]:List (List O))),((AE.fn (v1,())).2).2)) (Q ((x0.1,([]:List (List O))),0))) (((!((AE.fn (v1,())).2).1)=true→(!((AE.fn (v1,())).2).1)=true∧BT.pre ((AE.fn (v1,())).1,()))∧((!((AE.fn (v1,())).2).1)=true→(!((AE.fn (v1,())).2).1)=true∧(!((AE.fn (v1,())).2).1)=true∧True)∧(((AE.fn (v1,())).2).1=false→(!((AE.fn (v1,())).2).1)=true)∧cond (((AE.fn (v1,())).2).1||Option.getD (y3.2.2 v2) false) (AB .i64 (y3.1+1)∧R3 ( y3.1+1,y3.2)) (BT.pre ((AE.fn (v1,())).1,())∧((y3.2.1.length+v4.length)*24≤140737488355328∧y3.2.1.length+v4.length≤9223372036854775807)∧cond (decide (400<(( List.length (y3.2.1++v4):Nat):Int))) (Q ((0,([]:List (List O))),3)) (AB .i64 (y3.1+1)∧R3 ( y3.1+1,( y3.2.1++v4,CA y3.2.2 v2 true)))))) (Q ((x0.1,y3.2.1),0))) (0,(([]:List (List O)),λ(a3:ByteArray)=>(none:Option Bool)))
def DR.wp(x0:Int×List (List O))(x1:List O)(Q:(Int×List (List O))×Int→Prop):Prop:=((! ! Bf.fn (x0,()))=true→(! ! Bf.fn (x0,()))=true∧Ch.pre (x1,((λ(a3:O)=>True,λ(a3:O)=>GC.fn (a3,())),())))∧((! Bf.fn (x0,()))=false→(! ! Bf.fn (x0,()))=true)∧cond ( ! Bf.fn (x0,())||Ch.fn (x1,((λ(a3:O)=>True,λ(a3:O)=>GC.fn (a3,())),()))) (Q ((0,([]:List (List O))),1)) (cond (! EE.fn (x1,(x0.1,()))) (Q ((0,([]:List (List O))),2)) (EC.pre (x0,(x1,()))∧Q (EC.fn (x0,(x1,())))))
def DQ.wp(x0:Int×List (List O))(x1:List O)(Q:(Int×List (List O))×Int→Prop):Prop:=Lp (σ:=Int×Int) (λy3 R3=>let v0:=x1.getD y3.1.toNat U;cond (decide (y3.1<x1.length)) ((0≤y3.1∧y3.1<x1.length)∧cond (! C2.fn (v0,())) (Q ((0,([]:List (List O))),1)) (cond (v0.2.2.1.length !=x0.1) (AB .i64 (y3.1+1)∧R3 ( y3.1+1,2)) (AB .i64 (y3.1+1)∧R3 ( y3.1+1,y3.2)))) (cond (! Bl.fn (x0,())) (Q ((0,([]:List (List O))),1)) (cond (y3.2 !=0) (Q ((0,([]:List (List O))),y3.2)) (Lp (σ:=Int×List (List O)) (λy5 R5=>let v2:=x0.2.getD y5.1.toNat ([]:List O);let v3:=CK.fn (v2,(x1,()));cond (decide (y5.1<x0.2.length)) ((0≤y5.1∧y5.1<x0.2.length)∧CK.pre (v2,(x1,()))∧((y5.2.length+List.length [v3])*24≤140737488355328∧y5.2.length+List.length [v3]≤9223372036854775807)∧AB .i64 (y5.1+1)∧R5 ( y5.1+1,y5.2++[v3])) (Bu.pre (x0.1,(y5.2,()))∧Q (Bu.fn (x0.1,(y5.2,()))))) (0,([]:List (List O))))))) (0,0)
def Dh.wp(x0:Int×List (List O))(x1:Int)(x2:Int)(Q:(Int×List (List O))×Int→Prop):Prop:=cond (! Bf.fn (x0,())) (Q ((0,([]:List (List O))),1)) (((! decide (x1<0))=true→(! decide (x1<0))=true∧True)∧((! decide (x1<0))=true→(! decide (x1<0))=true∧(! decide (x1<0))=true∧True)∧(decide (x1<0)=false→(! decide (x1<0))=true)∧((!(decide (x1<0)||decide (x0.1≤x1)))=true→(!(decide (x1<0)||decide (x0.1≤x1)))=true∧True)∧((decide (x1<0)||decide (x0.1≤x1))=false→(!(decide (x1<0)||decide (x0.1≤x1)))=true)∧((!( decide (x1<0)||decide (x0.1≤x1)||decide (x2< -4294967296)))=true→(!( decide (x1<0)||decide (x0.1≤x1)||decide (x2< -4294967296)))=true∧True)∧(( decide (x1<0)||decide (x0.1≤x1)||decide (x2< -4294967296))=false→(!( decide (x1<0)||decide (x0.1≤x1)||decide (x2< -4294967296)))=true)∧cond ( decide (x1<0)||decide (x0.1≤x1)||decide (x2< -4294967296)||decide (4294967296<x2)) (Q ((0,([]:List (List O))),6)) (AB .i64 (x0.1-1)∧Lp (σ:=Int×List (List O)×(ByteArray→Option Bool)) (λy4 R4=>let v0:=x0.2.getD y4.1.toNat ([]:List O);cond (decide (y4.1<x0.2.length)) ((0≤y4.1∧y4.1<x0.2.length)∧Lp (σ:=Int×List O) (λy6 R6=>let v1:=v0.getD y6.1.toNat U;let v2:=v1.2.2.1.getD x1.toNat 0;let v5:=[(v1.1,(v1.2.1,( List.take x1.toNat v1.2.2.1++List.drop (Int.toNat (x1+1)) v1.2.2.1,v1.2.2.2+x2*v2)))];let v6:=BT.fn ((AE.fn (y6.2,())).1,());let v8:=[(AE.fn (y6.2,())).1];cond (decide (y6.1<v0.length)) ((0≤y6.1∧y6.1<v0.length)∧v1.2.2.1.length*8≤140737488355328∧AB .i64 (x1+1)∧(v1.2.2.1≠([]:List Int)∧0≤x1∧x1≤x1+1∧x1+1≤v1.2.2.1.length)∧(0≤x1∧x1<v1.2.2.1.length)∧AB .i64 (x2*v2)∧AB .i64 (v1.2.2.2+x2*v2)∧((y6.2.length+v5.length)*48≤140737488355328∧y6.2.length+v5.length≤9223372036854775807)∧AB .i64 (y6.1+1)∧R6 ( y6.1+1,y6.2++v5)) (AE.pre (y6.2,())∧cond (((AE.fn (y6.2,())).2).2 !=0) (cond (((AE.fn (y6.2,())).2).2 !=0) (Q ((0,([]:List (List O))),((AE.fn (y6.2,())).2).2)) (Q (( x0.1-1,([]:List (List O))),0))) (((!((AE.fn (y6.2,())).2).1)=true→(!((AE.fn (y6.2,())).2).1)=true∧BT.pre ((AE.fn (y6.2,())).1,()))∧((!((AE.fn (y6.2,())).2).1)=true→(!((AE.fn (y6.2,())).2).1)=true∧(!((AE.fn (y6.2,())).2).1)=true∧True)∧(((AE.fn (y6.2,())).2).1=false→(!((AE.fn (y6.2,())).2).1)=true)∧cond (((AE.fn (y6.2,())).2).1||Option.getD (y4.2.2 v6) false) (AB .i64 (y4.1+1)∧R4 ( y4.1+1,y4.2)) (BT.pre ((AE.fn (y6.2,())).1,())∧((y4.2.1.length+v8.length)*24≤140737488355328∧y4.2.1.length+v8.length≤9223372036854775807)∧cond (decide (400<(( List.length (y4.2.1++v8):Nat):Int))) (Q ((0,([]:List (List O))),3)) (AB .i64 (y4.1+1)∧R4 ( y4.1+1,( y4.2.1++v8,CA y4.2.2 v6 true))))))) (0,([]:List O))) (Q (( x0.1-1,y4.2.1),0))) (0,(([]:List (List O)),λ(a4:ByteArray)=>(none:Option Bool)))))
def D2.wp(x0:AT)(x1:Int)(Q:AT→Prop):Prop:=Lp (σ:=Int×Int×List Int) (λy3 R3=>let v0:=x0.1.getD y3.1.toNat 0;cond (decide (y3.1<x0.1.length)) ((0≤y3.1∧y3.1<x0.1.length)∧cond (y3.1 !=x1) (((y3.2.2.length+List.length [v0])*8≤140737488355328∧y3.2.2.length+List.length [v0]≤9223372036854775807)∧AB .i64 (y3.1+1)∧R3 ( y3.1+1,(y3.2.1,y3.2.2++[v0]))) (AB .i64 (y3.1+1)∧R3 ( y3.1+1,y3.2))) (Q (y3.2.2,y3.2.1))) (0,(x0.2,([]:List Int)))
def FD.wp(x0:Int×List (List O))(x1:Int)(x2:Int)(Q:(Int×List (List O))×Int→Prop):Prop:=cond (! Bl.fn (x0,())) (Q ((0,([]:List (List O))),1)) (((! decide (x1<0))=true→(! decide (x1<0))=true∧True)∧((! decide (x1<0))=true→(! decide (x1<0))=true∧(! decide (x1<0))=true∧True)∧(decide (x1<0)=false→(! decide (x1<0))=true)∧((!(decide (x1<0)||decide (x0.1≤x1)))=true→(!(decide (x1<0)||decide (x0.1≤x1)))=true∧True)∧((!(decide (x1<0)||decide (x0.1≤x1)))=true→(!(decide (x1<0)||decide (x0.1≤x1)))=true∧True)∧((decide (x1<0)||decide (x0.1≤x1))=false→(!(decide (x1<0)||decide (x0.1≤x1)))=true)∧cond ( decide (x1<0)||decide (x0.1≤x1)||! Fe.fn (x2,())) (Q ((0,([]:List (List O))),6)) (Lp (σ:=Int×List (List O)) (λy4 R4=>let v0:=x0.2.getD y4.1.toNat ([]:List O);cond (decide (y4.1<x0.2.length)) ((0≤y4.1∧y4.1<x0.2.length)∧Lp (σ:=Int×List O) (λy6 R6=>let v1:=v0.getD y6.1.toNat U;let v2:=v1.2.2.1.getD x1.toNat 0;let v3:=D2.fn (v1.2.2,(x1,()));let v4:=[(v1.1,(v1.2.1,(v3.1,v3.2+v2*x2)))];cond (decide (y6.1<v0.length)) ((0≤y6.1∧y6.1<v0.length)∧D2.pre (v1.2.2,(x1,()))∧(0≤x1∧x1<v1.2.2.1.length)∧AB .i64 (v2*x2)∧AB .i64 (v3.2+v2*x2)∧((y6.2.length+v4.length)*48≤140737488355328∧y6.2.length+v4.length≤9223372036854775807)∧AB .i64 (y6.1+1)∧R6 ( y6.1+1,y6.2++v4)) (((y4.2.length+List.length [y6.2])*24≤140737488355328∧y4.2.length+List.length [y6.2]≤9223372036854775807)∧AB .i64 (y4.1+1)∧R4 ( y4.1+1,y4.2++[y6.2]))) (0,([]:List O))) (AB .i64 (x0.1-1)∧Bu.pre ( x0.1-1,(y4.2,()))∧Q (Bu.fn ( x0.1-1,(y4.2,()))))) (0,([]:List (List O)))))
def law04_SetWhere.wp(x0:Int×List (List O))(x1:List O)(x2:Int)(x3:Int)(Q:Bool→Prop):Prop:=let v0:=BK.fn (20,(60,([x0],())));let v1:=DR.fn (x0,(x1,()));let v2:=DQ.fn (x0,(x1,()));let v3:=Cm.fn (v1.1,(v1.2,(v2.1,(v2.2,()))));let v4:=Dh.fn (x0,(x2,(x3,())));let v5:=FD.fn (x0,(x2,(x3,())));let v6:=Cm.fn (v4.1,(v4.2,(v5.1,(v5.2,()))));((! !v0)=true→(! !v0)=true∧True)∧((! !v0)=true→(! !v0)=true∧True)∧((!v0)=false→(! !v0)=true)∧cond ( !v0||decide (60<(x1.length:Int))) (Q (Ak.fn ())) (DR.pre (x0,(x1,()))∧DQ.pre (x0,(x1,()))∧(v3=true→v3=true∧v3=true∧v3=true∧v3=true∧True)∧(v3=true→v3=true)∧((v3&&v6)=true→(v3&&v6)=true)∧Q ( v3&&v6&&Ak.fn ()))
theorem GC.spec(c:O):GC.wp c λr=>r=GC.fn (c,()):=rfl
theorem WL{p q:List O}(hp:A2 p)(hq:A2 q)(h1:p.length≤96)(h2:q.length≤4096):A2 (p++q):=⟨by rw[yU];omega,λc hc=>(List.mem_append.1 hc).elim (hp.2 c) (hq.2 c)⟩
theorem X2{α β:Type}{l:List α}{f:α→β}{d:α}{e:β}{i:Nat}(h:i<l.length):(l.map f).getD i e=f (l.getD i d):=by simp[yT,h]
theorem EC.spec(s:AG)(l:List O)(hp:EC.pre (s,l,())):EC.wp s l λr=>r=EC.fn (s,l,()):=by
 obtain⟨hv,hB,MB⟩:=hp;simp only at hv hB MB;have hfn:EC.fn (s,l,())=CW s.1 ((s.2.map (·++l)).foldlM BB []):=rfl;have mV:∀p:List O,CE.fn ([p,l],())=p++l:=λp=>by simp[CE.fn]
 simp only[EC.wp,hfn,mV];have hlen:=(AD.b hv).2.2.1;have FQ:(s.2.map (·++l)).length=s.2.length:=by simp
 have key:=Lp.tid (s.2.map (·++l)) [] _ EX.nil (by simp) (by omega) (body:=λy3 R3=>let v0:=List.getD s.2 (Int.toNat y3.1) ([]:List O);cond (decide (y3.1<((List.length s.2:Nat):Int))) (((0:Int)≤y3.1∧y3.1<((List.length s.2:Nat):Int))∧(CE.pre ([v0,l],())∧(AE.pre (v0++l,())∧cond (((AE.fn (v0++l,())).2).2 !=(0:Int)) (cond (((AE.fn (v0++l,())).2).2 !=(0:Int)) ((((0:Int),([]:List (List O))),((AE.fn (v0++l,())).2).2)=CW s.1 ((s.2.map (·++l)).foldlM BB [])) (((s.1,([]:List (List O))),(0:Int))=CW s.1 ((s.2.map (·++l)).foldlM BB []))) (((!((AE.fn (v0++l,())).2).1)=true→(!((AE.fn (v0++l,())).2).1)=true∧BT.pre ((AE.fn (v0++l,())).1,()))∧(((!((AE.fn (v0++l,())).2).1)=true→(!((AE.fn (v0++l,())).2).1)=true∧(!((AE.fn (v0++l,())).2).1)=true∧True)∧((((AE.fn (v0++l,())).2).1=false→(!((AE.fn (v0++l,())).2).1)=true)∧cond (((AE.fn (v0++l,())).2).1||Option.getD (y3.2.2 (BT.fn ((AE.fn (v0++l,())).1,()))) false) (AB IntKind.i64 (y3.1+(1:Int))∧R3 ( y3.1+(1:Int),y3.2)) (BT.pre ((AE.fn (v0++l,())).1,())∧(((List.length y3.2.1+List.length [(AE.fn (v0++l,())).1])*24≤140737488355328∧List.length y3.2.1+List.length [(AE.fn (v0++l,())).1]≤9223372036854775807)∧cond (decide ((400:Int)<(( List.length (y3.2.1++[(AE.fn (v0++l,())).1]):Nat):Int))) ((((0:Int),([]:List (List O))),(3:Int))=CW s.1 ((s.2.map (·++l)).foldlM BB [])) (AB IntKind.i64 (y3.1+(1:Int))∧R3 ( y3.1+(1:Int),( y3.2.1++[(AE.fn (v0++l,())).1],CA y3.2.2 (BT.fn ((AE.fn (v0++l,())).1,())) true))))))))))) (((s.1,y3.2.1),(0:Int))=CW s.1 ((s.2.map (·++l)).foldlM BB []))) λi out m R e e2 hf hk hl h1 h2 h3=>by
  rw[FQ]at e e2;rw[X2 (d:=[]) e]at h1 h2 h3;have hm:=AD.piece hv (AX (d:=[]) e);simp only[yO e2,yQ,yR];refine⟨⟨by omega,by omega⟩,⟨by simp,by simp only[ZAm,ZBO,ZAT,yU];omega⟩,Mi (WL (AD.B hv (AX e)) hB hm.1 MB) hk hl (λh4 hn=>?_) (λhs=>⟨hf,h1 hs⟩) (λhn=>?_) λhs=>⟨hf,h2 hs⟩⟩;·simp only[AE.fn,h4,show((3:Int)!=0)=true from rfl,yR];rw[h3 hn];rfl
  ·rw[h3 hn];rfl λout m R ht hk hl=>by simp only[FQ,yY,yZ,yN];rw[ht];rfl
 exact key
theorem gA{l:List O}{f:O→Bool}(h:l.any f=false):∀c∈l,f c=false:=λc hc=>by rw[ZB4]at h;simpa using h c hc
theorem DR.spec(s:AG)(l:List O)(hp:DR.pre (s,l,())):DR.wp s l λr=>r=DR.fn (s,l,()):=by have hfn:DR.fn (s,l,())=Hz s l:=rfl;simp only[DR.wp,Bf.fn,EE.fn,hfn,Ch.fn,GC.fn,EC.fn];unfold Hz;cases hv:AD s with|false=>simp|true=>simp only[zU,ZAu,ZBC,ZCB,ZBq];refine⟨λc hc=>trivial,?_⟩;cases ha:l.any λc=>!AJ c with|true=>simp|false=>simp only[yN];cases ho:DN l s.1 with|false=>simp|true=>simp only[zU,yN];have hl:l.length≤4096:=hp;refine⟨⟨hv,⟨by show l.length≤1048576;omega,λc hc=>AJ.condB (by simpa using gA ha c hc)⟩,hl⟩,?_⟩;simp
theorem sL{l:List O}{n:Int}(h:DN l n=true)(hn:0≤n):∀c∈l,AJ c=true∧c.2.2.1.length=n.toNat:=λc hc=>by simp only[DN,ZAP,zN,ZB0]at h;obtain⟨h1,h2⟩:=h c hc;exact⟨h1,by omega⟩
theorem DQ.spec(s:AG)(l:List O)(hp:DQ.pre (s,l,())):DQ.wp s l λr=>r=DQ.fn (s,l,()):=by
 have hl:l.length≤4096:=hp;have hfn:DQ.fn (s,l,())=Hz s l:=rfl;simp only[DQ.wp,hfn,C2.fn,Bl.fn,CK.fn,Bu.fn];refine Lp.iter l.length (λi z=>(∀c∈l.take i,AJ c=true)∧z=((i:Int),if(l.take i).all λc=>(c.2.2.1.length:Int)==s.1 then 0 else 2)) ⟨by simp,by simp⟩ ?_;rintro i z hle⟨hval,rfl⟩R hR;by_cases e:i<l.length;·simp only[yO (show(i:Int)<(l.length:Int)by omega),yQ,yR];refine⟨⟨by omega,by omega⟩,?_⟩;have ht:=BN U e;cases hc:AJ (l.getD i U)with|false=>have ha:(l.any λc=>!AJ c)=true:=List.any_eq_true.2 ⟨_,AX e,by rw[hc];rfl⟩;simp[Hz,ha]|true=>
  have ZI:∀c∈l.take (i+1),AJ c=true:=λc Bq=>by
   rw[ht]at Bq;rcases List.mem_append.1 Bq with h|h;·exact hval c h
   ·simp only[zC]at h;subst h;exact hc
  simp only[zU,yN];have e1:[l.getD i U].all λc=>(c.2.2.1.length:Int)==s.1=(((l.getD i U).2.2.1.length:Int)==s.1):=by simp only[ZCC,ZCj,ZBt]
  by_cases hd:((l.getD i U).2.2.1.length:Int)=s.1;·rw[show(((l.getD i U).2.2.1.length:Int)!=s.1)=false by rw[hd];simp];simp only[yN];refine⟨⟨by omega,by omega⟩,hR e _ ⟨ZI,?_⟩⟩;rw[ht,ZBx,e1,beq_iff_eq.2 hd,ZBt];rfl
  ·rw[bne_iff_ne.2 hd];simp only[yR];refine⟨⟨by omega,by omega⟩,hR e _ ⟨ZI,?_⟩⟩;rw[ht,ZBx,e1,beq_eq_false_iff_ne.2 hd,ZB7];rfl
 ·have :i=l.length:=by omega
  subst this;rw[zA]at hval;have ha:(l.any λc=>!AJ c)=false:=by rw[ZB4];intro c hc;simp[hval c hc]
  simp only[yY,yZ,yN,zA];cases hv:AD s with|false=>simp[Hz,hv]|true=>
   simp only[zU,yN];have ho:DN l s.1=l.all λc=>(c.2.2.1.length:Int)==s.1:=by
    unfold DN;rw[ZAc,ZAP,ZAP];constructor;·intro h c hc;have :=h c hc;rw[zN]at this;exact this.2
    ·intro h c hc;rw[hval c hc,h c hc];rfl
   cases hall:l.all λc=>(c.2.2.1.length:Int)==s.1 with|false=>simp[Hz,hv,ha,ho,hall]|true=>
    simp only[ZA4,zJ,yN];have pW:Hz s l=CW s.1 (B7 (s.2.map (·++l))):=by simp[Hz,hv,ha,ho,hall,Uk]
    have hlen:=(AD.b hv).2.2.1;have Y1:=sL (ho.trans hall) (AD.b hv).1;refine Lp.iter s.2.length (λj z=>z=((j:Int),(s.2.take j).map (·++l))) (by simp) ?_;rintro j z hj rfl R2 A8;by_cases e2:j<s.2.length;·simp only[yO (show(j:Int)<(s.2.length:Int)by omega),yQ,yR];have hm:=AD.piece hv (AX (d:=[]) e2);refine⟨⟨by omega,by omega⟩,⟨by show(s.2.getD j []).length≤_;omega,by show l.length≤_;omega⟩,⟨by simp only[zL,zG,yX,zF];omega,by simp only[zL,zG,yX,zF];omega⟩,⟨by omega,by omega⟩,A8 e2 _ ?_⟩;rw[BN [] e2,ZAa];rfl
    ·have :j=s.2.length:=by omega
     subst this;simp only[yY,yZ,yN,zA];refine⟨⟨by simp only[zL];omega,λp Iw=>?_⟩,by rw[pW]⟩;obtain⟨q,hq,rfl⟩:=List.mem_map.1 Iw;have hm:=AD.piece hv hq;refine⟨WL (AD.B hv hq) ⟨by omega,λc hc=>AJ.condB (Y1 c hc).1⟩ hm.1 hl,s.1.toNat,λc hc=>?_⟩;rcases List.mem_append.1 hc with h|h;·exact(AD.D hv hq).2 c h
     ·exact(Y1 c h).2
theorem SC{C:List Int}{i:Nat}(h:i<C.length):(BV C i).length=C.length-1:=by unfold BV;simp;omega
theorem SD{C:List Int}{i:Nat}{n:Int}(h:n∈BV C i):n∈C:=by
 unfold BV at h;rcases List.mem_append.1 h with h|h;·exact zZ h
 ·exact List.mem_of_mem_drop h
theorem S8{C:List Int}{i:Nat}{P:Int→Prop}(h:∀n∈C,P n)(h0:P 0):P (C.getD i 0):=by
 by_cases e:i<C.length;·exact h _ (AX e)
 ·rw[yT,ZAW (by omega)];exact h0
theorem Ui{a v:Int}(ha:-1048576≤a∧a≤1048576)(hv:-4294967296≤v∧v≤4294967296):-4503599627370496≤v*a∧v*a≤4503599627370496:=by
 have h1:(v*a).natAbs≤4294967296*1048576:=by rw[ZDS];exact ZCS (by omega) (by omega)
 omega
theorem Sx{c:O}{i:Nat}{v:Int}(h:AJ c=true)(hv:-4294967296≤v∧v≤4294967296):condB (EK i v c)∧-4503599628419072≤c.2.2.2+v*c.2.2.1.getD i 0∧c.2.2.2+v*c.2.2.1.getD i 0≤4503599628419072:=by
 have hl:=BI.b (AJ.lin h);have hk:=AJ.kind h;have hm:=Ui (a:=c.2.2.1.getD i 0) (S8 (P:=λn=>-1048576≤n∧n≤1048576) hl.2.1 (by omega)) hv;have hK:-4503599628419072≤c.2.2.2+v*c.2.2.1.getD i 0∧c.2.2.2+v*c.2.2.1.getD i 0≤4503599628419072:=by omega
 refine⟨⟨?_,?_,λn hn=>?_,?_⟩,hK⟩
 ·rcases hk with⟨h,_⟩|⟨h,_⟩|⟨h,h1,h2⟩;·exact .inl h
  ·exact .inr (.inl h)
  ·exact .inr (.inr ⟨h,h1,by show c.2.1≤_;omega⟩)
 ·have :(BV c.2.2.1 i).length≤c.2.2.1.length:=by unfold BV;simp;omega
  show(BV c.2.2.1 i).length≤_;omega
 ·have :=hl.2.1 n (SD hn);unfold Bj;omega
 ·show Bj (c.2.2.2+v*c.2.2.1.getD i 0);unfold Bj;omega
theorem Ph{p:List O}{i:Nat}{v:Int}(h:p.length≤96)(hv:∀c∈p,AJ c=true)(hb:-4294967296≤v∧v≤4294967296):A2 (p.map (EK i v)):=⟨by rw[zL];omega,λc hc=>by obtain⟨d,hd,rfl⟩:=List.mem_map.1 hc;exact(Sx (hv d hd) hb).1⟩
theorem Sy{p:List O}{i n:Nat}{v:Int}(h:Am p n)(hi:i<n):Am (p.map (EK i v)) (n-1):=λc hc=>by obtain⟨d,hd,rfl⟩:=List.mem_map.1 hc;show(BV d.2.2.1 i).length=_;rw[SC (by rw[h d hd];exact hi),h d hd]
theorem Xl(s:AG)(i v:Int)(hv:AD s=true)(h:i<0∨s.1≤i∨v< -4294967296∨4294967296<v):DC s i v=((0,[]),6):=by unfold DC;rw[yP (by rw[hv];simp),yS h]
theorem Xn(s:AG)(i v:Int)(hv:AD s=true)(h:¬(i<0∨s.1≤i∨v< -4294967296∨4294967296<v)):DC s i v=CW (s.1-1) (B7 (s.2.map λp=>p.map (EK i.toNat v))):=by unfold DC;rw[yP (by rw[hv];simp),yP h]
theorem Dh.spec(s:AG)(i v:Int):Dh.wp s i v λr=>r=Dh.fn (s,i,v,()):=by have hfn:Dh.fn (s,i,v,())=DC s i v:=rfl;simp only[Dh.wp,Bf.fn,hfn];cases hv:AD s with|false=>simp[DC,hv]|true=>
 simp only[zU,yN];obtain⟨hd0,hd1,hlen,_⟩:=AD.b hv;by_cases JP:i<0∨s.1≤i∨v< -4294967296∨4294967296<v
 ·rw[Xl s i v hv JP];have hb:( decide (i<(0:Int))||decide (s.1≤i)||decide (v< -(4294967296:Int))||decide ((4294967296:Int)<v))=true:=by simp only[ZBw,ZAC];omega
  refine⟨λh=>⟨h,trivial⟩,λh=>⟨h,h,trivial⟩,λh=>by rw[h];rfl,λh=>⟨h,trivial⟩,λh=>by rw[h];rfl,λh=>⟨h,trivial⟩,λh=>by rw[h];rfl,?_⟩;rw[hb];simp
 ·rw[Xn s i v hv JP];have hi0:0≤i:=by omega
  have hi1:i<s.1:=by omega
  have E5:-4294967296≤v∧v≤4294967296:=by omega
  have hb:( decide (i<(0:Int))||decide (s.1≤i)||decide (v< -(4294967296:Int))||decide ((4294967296:Int)<v))=false:=by simp only[ZBA,ZAU];omega
  refine⟨λh=>⟨h,trivial⟩,λh=>⟨h,h,trivial⟩,λh=>by rw[h];rfl,λh=>⟨h,trivial⟩,λh=>by rw[h];rfl,λh=>⟨h,trivial⟩,λh=>by rw[h];rfl,?_⟩;rw[hb];simp only[yN];refine⟨⟨by omega,by omega⟩,?_⟩;obtain⟨n,rfl⟩:∃n:Nat,i=n:=⟨i.toNat,by omega⟩;have en:((n:Int)+1).toNat=n+1:=by omega
  simp only[yQ,en];have FQ:(s.2.map λp=>p.map (EK n v)).length=s.2.length:=by simp
  have pJ:B7 (s.2.map λp=>p.map (EK n v))=(s.2.map λp=>p.map (EK n v)).foldlM BB []:=rfl;rw[pJ];refine Lp.tid (s.2.map λp=>p.map (EK n v)) [] _ EX.nil (by simp) (by omega) ?_ ?_
  ·intro k out m R e e2 hf hk hl h1 h2 h3;rw[FQ]at e e2;rw[X2 (d:=[]) e]at h1 h2 h3;have hm:=AD.piece hv (AX (d:=[]) e);have Nd:=(AD.D hv (AX (d:=[]) e)).2;simp only[yO e2,yQ,yR];refine⟨⟨by omega,by omega⟩,?_⟩;refine Lp.iter (s.2.getD k []).length (λj z=>z=((j:Int),((s.2.getD k []).take j).map (EK n v))) (by simp) ?_;rintro j z hj rfl R2 A8;by_cases e3:j<(s.2.getD k []).length;·simp only[yO (show(j:Int)<((s.2.getD k []).length:Int)by omega),yQ,yR];have Bq:=AX (d:=U) e3;have Nc:=hm.2 _ Bq;have hcl:=Nd _ Bq;obtain⟨lS,YH⟩:=Sx (i:=n) Nc E5;have Ts:=BI.b (AJ.lin Nc);have Tw:=Ui (a:=((s.2.getD k []).getD j U).2.2.1.getD n 0) (S8 (P:=λn=>-1048576≤n∧n≤1048576) Ts.2.1 (by omega)) E5;refine⟨⟨by omega,by omega⟩,by omega,⟨by omega,by omega⟩,⟨λh=>by rw[h]at hcl;simp at hcl;omega,by omega,by omega,by omega⟩,⟨by omega,by omega⟩,⟨by omega,by omega⟩,⟨by omega,by omega⟩,⟨by simp only[zL,zG,yX,zF];omega,by simp only[zL,zG,yX,zF];omega⟩,⟨by omega,by omega⟩,A8 e3 _ ?_⟩;rw[BN U e3,ZAa];rfl
   ·have :j=(s.2.getD k []).length:=by omega
    subst this;simp only[yY,yZ,yN,zA];refine Mi (Ph hm.1 hm.2 E5) hk hl (λh4 hn=>?_) (λhs=>⟨hf,h1 hs⟩) (λhn=>?_) λhs=>⟨hf,h2 hs⟩;·simp only[AE.fn,h4,show((3:Int)!=0)=true from rfl,yR];rw[h3 hn];rfl
    ·rw[h3 hn];rfl
  ·intro out m R ht hk hl;simp only[FQ,yY,yZ,yN];rw[ht];rfl
theorem vK{C:List Int}{i k:Nat}(h:k<C.length):BV (C.take (k+1)) i=if k=i then BV (C.take k) i else BV (C.take k) i++[C.getD k 0]:=by
 unfold BV;rw[BN 0 h];have hl:(C.take k).length=k:=by simp;omega
 by_cases e:k=i;·rw[yS e];subst e;rw[ZB3 (by omega),ZBK (by simp;omega),ZBK (by omega)]
 ·rw[yP e];by_cases hk:k<i;·have t1:(List.take k C++[C.getD k 0]).take i=List.take k C++[C.getD k 0]:=ZA3 (by simp only[yU,yX,zF];omega);have t2:(List.take k C++[C.getD k 0]).drop (i+1)=[]:=ZBK (by simp only[yU,yX,zF];omega);have t3:(List.take k C).take i=List.take k C:=ZA3 (by omega);have t4:(List.take k C).drop (i+1)=[]:=ZBK (by omega);rw[t1,t2,t3,t4,ZAT,ZAT]
  ·rw[ZB3 (by omega),List.drop_append_of_le_length (by omega),ZAO]
theorem D2.spec(l:AT)(i:Int)(hp:D2.pre (l,i,())):D2.wp l i λr=>r=D2.fn (l,i,()):=by
 obtain⟨hl,h0,h1⟩:=hp;simp only at hl h0 h1;obtain⟨n,rfl⟩:∃n:Nat,i=n:=⟨i.toNat,by omega⟩;simp only[D2.wp,D2.fn,yQ];refine Lp.iter l.1.length (λk z=>z=((k:Int),l.2,BV (l.1.take k) n)) (by simp[BV]) ?_;rintro k z hk rfl R hR;by_cases e:k<l.1.length
 ·simp only[yO (show(k:Int)<(l.1.length:Int)by omega),yQ,yR];refine⟨⟨by omega,by omega⟩,?_⟩;have BJ:=vK (i:=n) e;have hcl:(BV (l.1.take k) n).length≤k:=by unfold BV;simp;omega
  by_cases hkn:k=n;·rw[show(((k:Nat):Int)!=(n:Int))=false by simp[hkn]];rw[yS hkn]at BJ;exact⟨⟨by omega,by omega⟩,hR e _ (by rw[BJ];rfl)⟩
  ·rw[show(((k:Nat):Int)!=(n:Int))=true by simp;omega];rw[yP hkn]at BJ;exact⟨⟨by simp only[yX,zF];omega,by simp only[yX,zF];omega⟩,⟨by omega,by omega⟩,hR e _ (by rw[BJ];rfl)⟩
 ·have :k=l.1.length:=by omega
  subst this;simp only[yY,yZ,yN,zA]
theorem FD.spec(s:AG)(i v:Int):FD.wp s i v λr=>r=FD.fn (s,i,v,()):=by have hfn:FD.fn (s,i,v,())=DC s i v:=rfl;simp only[FD.wp,Bl.fn,hfn,Fe.fn,D2.fn,Bu.fn];cases hv:AD s with|false=>simp[DC,hv]|true=>
 simp only[zU,yN];obtain⟨hd0,hd1,hlen,_⟩:=AD.b hv;have YZ:Bm v=(decide (-4294967296≤v)&&decide (v≤4294967296)):=rfl;by_cases JP:i<0∨s.1≤i∨v< -4294967296∨4294967296<v
 ·rw[Xl s i v hv JP];have hb:( decide (i<(0:Int))||decide (s.1≤i)||!Bm v)=true:=by rw[YZ];simp only[ZBw,ZAC,ZCT,Bool.and_eq_false_iff,ZAU];omega
  refine⟨λh=>⟨h,trivial⟩,λh=>⟨h,h,trivial⟩,λh=>by rw[h];rfl,λh=>⟨h,trivial⟩,λh=>⟨h,trivial⟩,λh=>by rw[h];rfl,?_⟩;rw[hb];simp
 ·rw[Xn s i v hv JP];have hi0:0≤i:=by omega
  have hi1:i<s.1:=by omega
  have E5:-4294967296≤v∧v≤4294967296:=by omega
  have hb:( decide (i<(0:Int))||decide (s.1≤i)||!Bm v)=false:=by rw[YZ];simp only[ZBA,ZAU,Bool.not_eq_false',zN,ZAC];omega
  refine⟨λh=>⟨h,trivial⟩,λh=>⟨h,h,trivial⟩,λh=>by rw[h];rfl,λh=>⟨h,trivial⟩,λh=>⟨h,trivial⟩,λh=>by rw[h];rfl,?_⟩;rw[hb];simp only[yN];obtain⟨n,rfl⟩:∃n:Nat,i=n:=⟨i.toNat,by omega⟩;simp only[yQ];refine Lp.iter s.2.length (λk z=>z=((k:Int),(s.2.take k).map λp=>p.map (EK n v))) (by simp) ?_;rintro k z hk rfl R hR;by_cases e:k<s.2.length
  ·simp only[yO (show(k:Int)<(s.2.length:Int)by omega),yQ,yR];refine⟨⟨by omega,by omega⟩,?_⟩;have hm:=AD.piece hv (AX (d:=[]) e);have Nd:=(AD.D hv (AX (d:=[]) e)).2;have C9:=BN ([]:List O) e;refine Lp.iter (s.2.getD k []).length (λj z=>z=((j:Int),((s.2.getD k []).take j).map (EK n v))) (by simp) ?_;rintro j z hj rfl R2 A8;by_cases e3:j<(s.2.getD k []).length;·simp only[yO (show(j:Int)<((s.2.getD k []).length:Int)by omega),yQ,yR];have Bq:=AX (d:=U) e3;have Nc:=hm.2 _ Bq;have hcl:=Nd _ Bq;obtain⟨lS,YH⟩:=Sx (i:=n) Nc E5;have Ts:=BI.b (AJ.lin Nc);have Tw:=Ui (a:=((s.2.getD k []).getD j U).2.2.1.getD n 0) (S8 (P:=λn=>-1048576≤n∧n≤1048576) Ts.2.1 (by omega)) E5;have UD:=BN U e3;rw[ZCK]at Tw YH;refine⟨⟨by omega,by omega⟩,⟨by show((s.2.getD k []).getD j U).2.2.1.length≤_;omega,by show(0:Int)≤(n:Int);omega,by show(n:Int)<((((s.2.getD k []).getD j U).2.2.1.length:Nat):Int);omega⟩,⟨by omega,by omega⟩,⟨by omega,by omega⟩,⟨by omega,by omega⟩,⟨by simp only[zL,zG,yX,zF];omega,by simp only[zL,zG,yX,zF];omega⟩,⟨by omega,by omega⟩,A8 e3 _ ?_⟩;rw[UD,ZAa];simp only[ZAK,ZDC,EK,ZCK v];rfl
   ·have :j=(s.2.getD k []).length:=by omega
    subst this;simp only[yY,yZ,yN,zA];refine⟨⟨by simp only[zL,zG,yX,zF];omega,by simp only[zL,zG,yX,zF];omega⟩,⟨by omega,by omega⟩,hR e _ ?_⟩;rw[C9,ZAa];rfl
  ·have :k=s.2.length:=by omega
   subst this;simp only[yY,yZ,yN,zA];refine⟨⟨by omega,by omega⟩,⟨by simp only[zL];omega,λp Iw=>?_⟩,trivial⟩;obtain⟨q,hq,rfl⟩:=List.mem_map.1 Iw;have hm:=AD.piece hv hq;exact⟨Ph hm.1 hm.2 E5,s.1.toNat-1,Sy (AD.D hv hq).2 (by omega)⟩
theorem law04_SetWhere.spec(s:AG)(l:List O)(i v:Int):law04_SetWhere.wp s l i v λr=>r=true:=by unfold law04_SetWhere.wp;have e1:Cm.fn ((DR.fn (s,(l,()))).1,((DR.fn (s,(l,()))).2,((DQ.fn (s,(l,()))).1,((DQ.fn (s,(l,()))).2,()))))=true:=Kp (Hz s l);have e2:Cm.fn ((Dh.fn (s,(i,(v,())))).1,((Dh.fn (s,(i,(v,())))).2,((FD.fn (s,(i,(v,())))).1,((FD.fn (s,(i,(v,())))).2,()))))=true:=Kp (DC s i v);simp only[e1,e2,Ak.fn];cases BK.fn ((20:Int),((60:Int),([s],())))with|false=>simp|true=>
 by_cases h:(60:Int)<(l.length:Int);·simp[h]
 ·have hw:DR.pre (s,(l,())):=by show l.length≤4096;omega
  have HT:DQ.pre (s,(l,())):=by show l.length≤4096;omega
  simp[h,hw,HT]
def Nf(c:O):Prop:=AV c=(c,0)
theorem lI{c:O}(h0:c.1=0)(h1:c.2.1=0)(hg:AO c.2.2.1=1):Nf c:=by obtain⟨a,b,C,K⟩:=c;simp only at h0 h1 hg;subst h0 h1;unfold Nf AV FM;simp only[hg,ZA4];simp
theorem Xa{c:O}(h0:c.1=1)(h1:c.2.1=0)(hg:AO c.2.2.1=1)(hf:Ct c.2.2.1=false):Nf c:=by
 obtain⟨a,b,C,K⟩:=c;simp only at h0 h1 hg hf;subst h0 h1;have hs:Bo (1,0,C,K)=1:=by unfold Bo;simp[hf,hg]
 unfold Nf AV Bt;rw[yP (by simp),yS rfl,hs];simp[hg,ZC9]
theorem jD{c:O}(h0:c.1=2)(hm:2≤c.2.1)(hC:∀n∈c.2.2.1,0≤n∧n<c.2.1)(hK:0≤c.2.2.2∧c.2.2.2<c.2.1)(hg:AO (c.2.1::c.2.2.1)=1):Nf c:=by
 obtain⟨a,M,C,K⟩:=c;simp only at h0 hm hC hK hg;subst h0;have e1:C.map (·%M)=C:=by
  conv=>rhs;rw[←ZCE C]
  exact ZAw λn hn=>ZC2 (hC n hn).1 (hC n hn).2
 have e2:K%M=K:=ZC2 hK.1 hK.2;have hd:As (2,M,C,K)=1:=by unfold As;simp only[e1,hg]
 unfold Nf AV EJ;rw[yP (by simp),yP (by simp),hd];simp only[e1,e2];rw[yP (by simp[ZC9]),yP (by show¬M=((1:Nat):Int);omega)];simp
theorem Xy{g:Nat}:∀{l:List Int},AO (l.map λn=>(g:Int)*n)=g*AO l|[]=>by simp[AO]|n::l=>by rw[ZAK,Po,Xy (l:=l),Po,ZDS,ZDj,Nat.gcd_mul_left]
theorem tM{c:O}(hb:condB c)(h:(AV c).2=0):Nf (AV c).1:=by
 obtain⟨hn,hk1⟩:=VD hb h;obtain⟨hk,_⟩:=hb;have hs:∀b,(Cs b).2≠0:=λb=>by cases b<;>simp[Cs]
 rcases hk with hk|hk|⟨hk,Dd,HI⟩;·exact lI (by omega) (bL h (by omega)) (hn.2.1 (by omega))
 ·refine Xa (by omega) ?_ (hn.2.1 (by omega)) (hn.2.2 (by omega));have hr:AV c=Bt c:=by simp[AV,hk]
  rw[hr]at h⊢;unfold Bt at h⊢;split at h;·exact absurd h (hs _)
  ·rename_i ha;rw[yP ha]
 ·have hr:AV c=EJ c:=by simp[AV,hk]
  rw[hr]at h⊢;unfold EJ at h⊢;split at h;·exact absurd h (hs _)
  split at h;·exact absurd h (hs _)
  rename_i ha hb;rw[yP ha,yP hb];have Lv:(As c:Int)∣c.2.1:=KO (l:=c.2.1::c.2.2.1.map (·%c.2.1)) (by simp);have P5:∀n∈c.2.2.1.map (·%c.2.1),(As c:Int)∣n:=λn hn=>KO (l:=c.2.1::c.2.2.1.map (·%c.2.1)) (by simp only[zO];exact .inr hn);have P6:(As c:Int)∣c.2.2.2%c.2.1:=Int.dvd_iff_tmod_eq_zero.2 (by simpa using ha);have Nh:0<As c:=NM Dd _;obtain⟨M,hM⟩:=Lv;have e1:c.2.1.tdiv (As c)=M:=by rw[hM];exact Int.mul_tdiv_cancel_left _ (by omega)
  have Ng:∀x:Int,(As c:Int)∣x→(As c:Int)*x.tdiv (As c)=x:=λx hx=>ZBk hx;have xC:0<M:=by
   rcases Int.lt_or_le 0 M with h|h;·exact h
   ·have :(As c:Int)*M≤0:=Int.mul_nonpos_of_nonneg_of_nonpos (by omega) h;omega
  have YQ:M≠1:=λe=>hb (by rw[hM,e,Int.mul_one]);have small:∀x:Int,0≤x→x<c.2.1→(As c:Int)∣x→0≤x.tdiv (As c)∧x.tdiv (As c)<M:=λx h0 h1 hx=>by
   have hx':=Ng x hx;refine⟨Int.tdiv_nonneg h0 (by omega),?_⟩;rcases Int.lt_or_le (x.tdiv (As c)) M with h|h;·exact h
   ·have :=ZB2 h (show(0:Int)≤(As c:Int)by omega);omega
  have HJ:∀x:Int,0≤x%c.2.1∧x%c.2.1<c.2.1:=λx=>⟨ZBS _ (by omega),ZBH _ (by omega)⟩;refine jD rfl (by show 2≤c.2.1.tdiv (As c);rw[e1];omega) (λn hn=>?_) ?_ ?_;·show 0≤n∧n<c.2.1.tdiv (As c);rw[e1];obtain⟨x,hx,rfl⟩:=List.mem_map.1 hn;have Cw:=P5 x hx;obtain⟨y,hy,rfl⟩:=List.mem_map.1 hx;exact small _ (HJ y).1 (HJ y).2 Cw
  ·show 0≤(c.2.2.2%c.2.1).tdiv (As c)∧(c.2.2.2%c.2.1).tdiv (As c)<c.2.1.tdiv (As c);rw[e1];exact small _ (HJ _).1 (HJ _).2 P6
  ·show AO (c.2.1.tdiv (As c)::(c.2.2.1.map (·%c.2.1)).map (·.tdiv (As c)))=1;have h1:=Xy (g:=As c) (l:=c.2.1.tdiv (As c)::(c.2.2.1.map (·%c.2.1)).map (·.tdiv (As c)));have e:(c.2.1.tdiv (As c)::(c.2.2.1.map (·%c.2.1)).map (·.tdiv (As c))).map (λn=>(As c:Int)*n)=c.2.1::c.2.2.1.map (·%c.2.1):=by
    rw[ZAK,e1,←hM,ZCL];congr 1;conv=>rhs;rw[←ZCE (c.2.2.1.map (·%c.2.1))]
    exact ZAw λn hn=>Ng n (P5 n hn)
   rw[e]at h1;have h2:As c=As c*AO (c.2.1.tdiv (As c)::(c.2.2.1.map (·%c.2.1)).map (·.tdiv (As c))):=h1;exact(Nat.eq_of_mul_eq_mul_left Nh (by rw[ZA8];exact h2)).symm
theorem tJ{p:List O}(hb:A2 p){c:O}(h:c∈Ai p):Nf c:=by simp only[Ai,ZAb,ZBy]at h;obtain⟨r,⟨⟨d,hd,rfl⟩,hr⟩,rfl⟩:=h;exact tM (hb.2 d hd) (by simpa using hr)
theorem vU{n:Nat}{c:O}(h:Mk n c)(h0:c.1=0):Nf (EW c):=by have hk:=Hy h h0;refine Xa hk.2 ?_ (hk.1.1.2.1 (by rw[hk.2];omega)) (hk.1.1.2.2 hk.2);have hg:=h.gcd h0;simp[EW,AV,Bt,hg,ZC9]
theorem tN{q:List O}(h:∀c∈q,Nf c):CD q=false∧Ai q=q:=by
 have e:q.map AV=q.map λc=>(c,(0:Int)):=ZAw λc hc=>h c hc;constructor;·unfold CD;rw[e,ZDA];simp
 ·unfold Ai;rw[e,List.filter_eq_self.2 λr hr=>by obtain⟨c,_,rfl⟩:=List.mem_map.1 hr;rfl,ZCL];exact ZCE q
def Fx(q:List O):Prop:=Aa q=(q,false,0)
theorem vS{p:List O}{n:Nat}(hb:A2 p)(hd:Am p n)(h0:(Aa p).2.2=0)(h1:(Aa p).2.1=false):Fx (Aa p).1:=by
 have hv:CD p=false:=by cases hv:CD p with|false=>rfl|true=>
  have e:Aa p=([],true,0):=by have :=If p;rw[hv]at this;simpa using this
  rw[e]at h1;cases h1
 have hok:=dI hb;have nE:=dG hb hd;obtain⟨s1,s2⟩:=RB hb hd hv;have hl:=Oa hb hd;have Ip:∀c,Lm (Ai p) c→Mk n c:=λc hc=>hl c hc.1;have hw1:¬G2 (Lm (Ai p)):=λh=>by rw[s1 (.inl h)]at h1;cases h1
 have HT:¬GH (MM (Lm (Ai p))):=λh=>by rw[s1 (.inr h)]at h1;cases h1
 obtain⟨m,hm⟩:=dK hb hd hv hw1 HT;have YR:∀c,MM (Lm (Ai p)) c→Mk n c∧Nf c:=λc hc=>by
  rcases hc with⟨h,_⟩|⟨d,h,hd0,_,rfl⟩;·exact⟨Ip c h,tJ hb h.1⟩
  ·exact⟨(Hy (Ip d h) hd0).1,vU (Ip d h) hd0⟩
 have Ex:K3 m:=λc hc=>(YR c ((hm c).1 hc).1).1.2.1;have hs:=s2 hw1 HT m hm;have hlen:=Vk p;have hq:(Aa p).1=Au m:=by
  rw[hs]at h0⊢;split at h0;·cases h0
  ·rename_i hc;rw[yP hc]
 generalize(Aa p).1=q at*;subst hq;have A9:∀x,x∈Au m↔I9 (MM (Lm (Ai p))) x:=λx=>by rw[Jr Ex,hm]
 have oJ:∀c∈Au m,Nf c:=λc hc=>(YR c ((A9 c).1 hc).1).2;obtain⟨v2,r2⟩:=tN oJ;have hL:∀{x},x∈Au m→x.1=0→Lm (Ai p) x∧¬Dm (Lm (Ai p)) x:=λ{x}hx h0=>by
  rcases((A9 x).1 hx).1 with⟨h,h'⟩|⟨d,h,hd0,_,rfl⟩;·exact⟨h,h' h0⟩
  ·have :=(Hy (Ip d h) hd0).2;omega
 have a1:∀x,Lm (Au m) x↔x∈Au m:=λx=>⟨λh=>h.1,λh=>⟨h,λh0 d hd hd0 he=>by have :=Lm.uniq hl (hL h h0).1 (hL hd hd0).1 h0 hd0 he.symm;rw[this];exact ZAr _⟩⟩;have a1e:Lm (Au m)=(·∈Au m):=funext λx=>propext (a1 x);have opp:∀c,c.1=0→c∈Au m→¬Dm (·∈Au m) c:=λc h0 hc⟨d,hd,hd0,h2,h3⟩=>(hL hc h0).2 ⟨d,(hL hd hd0).1,hd0,h2,h3⟩;have a2:∀x,MM (·∈Au m) x↔x∈Au m:=λx=>⟨λh=>by
  rcases h with⟨h,_⟩|⟨c,hc,h0,ho,_⟩;·exact h
  ·exact absurd ho (opp c h0 hc),λh=>.inl ⟨h,λh0=>opp x h0 h⟩⟩;have a2e:MM (·∈Au m)=(·∈Au m):=funext λx=>propext (a2 x);have a3:∀x,I9 (·∈Au m) x↔x∈Au m:=λx=>⟨λh=>h.1,λh=>⟨h,λh0 e he h1=>((A9 x).1 h).2 h0 e ((A9 e).1 he).1 h1⟩⟩;obtain⟨_,t2⟩:=RB hok.B nE v2;rw[r2,a1e,a2e]at t2;have Cv:¬G2 (·∈Au m):=λ⟨c,d,hc,hd,h0,h1,h2,h3⟩=>hw1 ⟨c,d,(hL hc h0).1,(hL hd h1).1,h0,h1,h2,h3⟩;have IP:∀{x},x∈Au m→MM (Lm (Ai p)) x:=λ{x}hx=>((A9 x).1 hx).1;have Cl:¬GH (·∈Au m):=λh=>by
  rcases h with⟨e,f,he,hf,h1,h2,h3,h4⟩|⟨c,e,hc,he,h0,h1,h2⟩;·exact HT (.inl ⟨e,f,IP he,IP hf,h1,h2,h3,h4⟩)
  ·exact HT (.inr ⟨c,e,IP hc,IP he,h0,h1,h2⟩)
 have HH:=t2 Cv Cl (Au m) λx=>(a3 x).symm;have UA:Au (Au m)=Au m:=(cQ (λc hc=>Ex c ((Jr Ex c).1 hc)) (Q0 Ex) λc=>ZCR).symm;unfold Fx;rw[HH,UA,yP];rw[ZBw,ZAC];rintro(h|h);·rw[ZBN]at h;obtain⟨c,hc,h⟩:=h;rw[hok.2 c hc]at h;cases h
 ·omega
def Nm(l:List (List O)):Prop:=l.Nodup∧∀q∈l,Fx q
theorem vN{out out':List (List O)}{p:List O}{n:Nat}(hb:A2 p)(hd:Am p n)(h:BB out p=some out')(ho:Nm out):Nm out':=by
 unfold BB at h;split at h;·cases h
 ·rename_i h3;split at h;·cases h;exact ho
  ·rename_i h4;split at h;·cases h
   ·cases h;rw[ZAX]at h4;have hf:Fx (Aa p).1:=vS hb hd (by simpa using h3) (by simpa using h4.1);refine⟨List.nodup_append.2 ⟨ho.1,by simp,λa ha b hb'=>?_⟩,λq hq=>?_⟩;·simp only[zC]at hb';subst hb';exact λe=>h4.2 (by rw[←e];exact ha)
    ·rcases List.mem_append.1 hq with h|h;·exact ho.2 q h
     ·simp only[zC]at h;subst h;exact hf
theorem Vh{n:Nat}:∀{l out out':List (List O)},(∀p∈l,A2 p∧Am p n)→l.foldlM BB out=some out'→Nm out→Nm out'|[],out,out',_,h,ho=>by cases h;exact ho|p::l,out,out',hl,h,ho=>by rw[zQ]at h;obtain⟨o1,h1,h2⟩:=Option.bind_eq_some_iff.1 h;obtain⟨hb,hd⟩:=hl p (by simp);exact Vh (λq hq=>hl q (zD _ hq)) h2 (vN hb hd h1 ho)
theorem Nm.nil:Nm []:=⟨List.nodup_nil,λq hq=>by cases hq⟩
theorem XC{b:List O}{n:Nat}(hb:Bs b)(Ds:Am b n):∀{l out out':List (List O)},(∀a∈l,Bs a∧Am a n)→l.foldlM (Gm b) out=some out'→Nm out→Nm out'
 |[],out,out',_,h,ho=>by cases h;exact ho|a::l,out,out',hl,h,ho=>by
  rw[zQ]at h;obtain⟨o1,h1,h2⟩:=Option.bind_eq_some_iff.1 h;obtain⟨ha,G8⟩:=hl a (by simp);refine XC hb Ds (λq hq=>hl q (zD _ hq)) h2 ?_;unfold Gm at h1;split at h1;·cases h1
  ·exact Vh (λp hp=>⟨(M5 ha hb).2 p hp,SB G8 hb Ds p hp⟩) h1 ho
theorem Z8{n:Nat}:∀{l cur cur':List (List O)},PD n cur→(∀b∈l,Bs b∧Am b n)→l.foldlM Gv cur=some cur'→Nm cur→Nm cur'|[],cur,cur',_,_,h,ho=>by cases h;exact ho|b::l,cur,cur',hc,hl,h,ho=>by rw[zQ]at h;obtain⟨o1,h1,h2⟩:=Option.bind_eq_some_iff.1 h;obtain⟨hb,Ds⟩:=hl b (by simp);exact Z8 (aA hb Ds hc [] h1).1 (λq hq=>hl q (zD _ hq)) h2 (XC hb Ds (λa ha=>hc.at ha) h1 Nm.nil)
theorem Nm.again:∀{l out:List (List O)},Nm (out++l)→(out++l).length≤400→l.foldlM BB out=some (out++l)
 |[],out,_,_=>by simp|q::l,out,h,hl=>by
  have hf:Aa q=(q,false,0):=h.2 q (by simp);have hn:q∉out:=λhm=>by have :=(List.nodup_append.1 h.1).2.2 q hm q (by simp);exact this rfl
  have hs:BB out q=some (out++[q]):=by unfold BB;rw[hf];simp only[ZDM,ZBj,ZAY,zY,false_or,yP hn];rw[yP];simp only[yU,yX]at hl;omega
  rw[zQ,hs];have e:out++q::l=out++[q]++l:=by simp
  rw[e]at h hl⊢;exact Nm.again h hl
def CF(s:AG):Prop:=AD s=true∧A1 s=(s,0)
theorem CF.of{n:Int}{l:List (List O)}(h0:0≤n)(h1:n≤12)(hp:PD n.toNat l)(hn:Nm l):CF (n,l):=by have hv:=uH h0 h1 hp;refine⟨hv,?_⟩;unfold A1;rw[yP (by rw[hv];simp)];have :B7 l=some l:=Nm.again (out:=[]) (by simpa using hn) (by simpa using hp.1.1);rw[this];rfl
theorem PD.of_tid{n:Nat}{l out:List (List O)}(hl:∀p∈l,A2 p∧Am p n)(h:B7 l=some out):PD n out∧Nm out:=⟨⟨Q9 h PP.nil λp hp=>(hl p hp).1,Om h (by simp) hl⟩,Vh hl h Nm.nil⟩
theorem CF.tid{n:Int}{l:List (List O)}(h0:0≤n)(h1:n≤12)(hl:∀p∈l,A2 p∧Am p n.toNat)(h:(CW n (B7 l)).2=0):CF (CW n (B7 l)).1:=by obtain⟨out,h2,h3⟩:=Jk h;rw[h3];obtain⟨a,b⟩:=PD.of_tid hl h2;exact CF.of h0 h1 a b
theorem aS{s:AG}(h:(A1 s).2=0):CF (A1 s).1:=by
 unfold A1 at h⊢;split at h;·cases h
 ·rename_i hv;rw[yP hv];have hv:AD s=true:=by simpa using hv
  have hb:=AD.b hv;exact CF.tid hb.1 hb.2.1 (λp hp=>AD.D hv hp) h
theorem dT{a b:AG}(h:(Er a b).2=0):CF (Er a b).1:=by
 unfold Er at h⊢;split at h;·rename_i h0;exact absurd h h0
 ·rename_i h0;rw[yP h0];obtain⟨ha,hb,he⟩:=LQ (by simpa using h0);have ID:=AD.b ha;refine CF.tid ID.1 ID.2.1 (λp hp=>?_) h;rcases List.mem_append.1 hp with hp|hp;·exact AD.D ha hp
  ·rw[he];exact AD.D hb hp
theorem rO{a b:AG}(ha:AD a=true)(hb:AD b=true)(he:a.1=b.1){p:List O}(hp:p∈EO a.2 b.2):A2 p∧Am p a.1.toNat:=by
 simp only[EO,ZBa,ZAb]at hp;obtain⟨q,hq,r,hr,rfl⟩:=hp;have hD:=O6 (n:=a.1.toNat) (AD.piece ha hq) (AD.piece hb hr) (AD.D ha hq).2 (by rw[he];exact(AD.D hb hr).2);refine⟨hD.1,λc hc=>?_⟩;rcases List.mem_append.1 hc with hc|hc;·exact(AD.D ha hq).2 c hc
 ·rw[he];exact(AD.D hb hr).2 c hc
theorem Z5{a b:AG}(h:(Ef a b).2=0):CF (Ef a b).1:=by
 unfold Ef at h⊢;split at h;·rename_i h0;exact absurd h h0
 ·rename_i h0;rw[yP h0];obtain⟨ha,hb,he⟩:=LQ (by simpa using h0);have ID:=AD.b ha;exact CF.tid ID.1 ID.2.1 (λp hp=>rO ha hb he hp) h
theorem Xk{s:AG}{i v:Int}(h:(DC s i v).2=0):CF (DC s i v).1:=by
 unfold DC at h⊢;split at h;·cases h
 ·rename_i hv;rw[yP hv];split at h;·cases h
  ·rename_i hb;rw[yP hb];have hv:AD s=true:=by simpa using hv
   have ID:=AD.b hv;refine CF.tid (by omega) (by omega) (λp hp=>?_) h;obtain⟨q,hq,rfl⟩:=List.mem_map.1 hp;have hm:=AD.piece hv hq;refine⟨Ph hm.1 hm.2 (by omega),?_⟩;have :=Sy (i:=i.toNat) (v:=v) (AD.D hv hq).2 (by omega);rwa[show(s.1-1).toNat=s.1.toNat-1 by omega]
theorem aB{a b:AG}(h:(BQ a b).2=0):CF (BQ a b).1:=by
 unfold BQ at h⊢;split at h;·rename_i h0;exact absurd h h0
 ·rename_i h0;obtain⟨ha,hb,he⟩:=LQ (by simpa using h0);rw[yP h0];split at h;·cases h
  ·rename_i h1;rw[yP h1];have n1:(A1 a).2=0:=ZAf λh=>h1 (.inl h);have n2:(A1 b).2=0:=ZAf λh=>h1 (.inr h);obtain⟨out,h2,h3⟩:=Jk h;rw[h3];have hb2:=OL n2;have ID:=AD.b ha;have hX:Nm (A1 a).1.2:=by
    have e:A1 a=CW a.1 (B7 a.2):=by unfold A1;rw[yP (by rw[ha];simp)]
    rw[e]at n1⊢;obtain⟨o,k1,k2⟩:=Jk n1;rw[k2];exact(PD.of_tid (λp hp=>AD.D ha hp) k1).2
   have hl:∀b'∈(A1 b).1.2,Bs b'∧Am b' a.1.toNat:=λb' hb'=>by rw[he];exact hb2.at hb'
   exact CF.of ID.1 ID.2.1 (Uh [] (OL n1) hl h2).1 (Z8 (OL n1) hl h2 hX)
def law04_SetStays.wp(x0:Int×List (List O))(x1:Int×List (List O))(x2:Int)(x3:Int)(Q:Bool→Prop):Prop:=let v1:=List.length ([]:List (Int×List (List O)));let v2:=[(Ap.fn (x0,())).1];let v3:=EU.fn (x0,(x1,()));let v4:=ER.fn (x0,(x1,()));let v5:=C3.fn (x0,(x1,()));let v6:=Dh.fn (x0,(x2,(x3,())));cond (! BK.fn (10,(10,([x0,x1],())))) (Q (Ak.fn ())) (Fr (σ:=Int×(Int×List (List O))×(Int×List (List O))×List (Int×List (List O))) (λy5=>Fr (σ:=Int×(Int×List (List O))×(Int×List (List O))×(Int×List (List O))×List (Int×List (List O))) (λy6=>Fr (σ:=Int×(Int×List (List O))×(Int×List (List O))×(Int×List (List O))×List (Int×List (List O))) (λy7=>Fr (σ:=Int×(Int×List (List O))×(Int×List (List O))×(Int×List (List O))×List (Int×List (List O))) (λy8=>Fr (σ:=Int×(Int×List (List O))×Int×Int×(Int×List (List O))×List (Int×List (List O))) (λy9=>let v7:=y9.2.2.2.2.2.length;Lp (λy10 R10=>let v8:=y9.2.2.2.2.2.getD y10.toNat (0,([]:List (List O)));let v9:=DP.fn (v8,((Ap.fn (v8,())).1,()));cond (decide (y10<((v7:Nat):Int))) ((0≤y10∧y10<((v7:Nat):Int))∧Int.toNat y10<v7∧( !(Ap.fn (v8,())).2 !=0=true→(!(Ap.fn (v8,())).2 !=0)=true∧(!(Ap.fn (v8,())).2 !=0)=true∧True)∧((!(Ap.fn (v8,())).2 !=0)=true→(!(Ap.fn (v8,())).2 !=0)=true∧True)∧(((Ap.fn (v8,())).2 !=0)=false→(!(Ap.fn (v8,())).2 !=0)=true)∧((!((Ap.fn (v8,())).2 !=0||!v9))=true→(!((Ap.fn (v8,())).2 !=0||!v9))=true∧True)∧((!((Ap.fn (v8,())).2 !=0||!v9))=true→(!((Ap.fn (v8,())).2 !=0||!v9))=true∧True)∧(((Ap.fn (v8,())).2 !=0||!v9)=false→(!((Ap.fn (v8,())).2 !=0||!v9))=true)∧cond ((Ap.fn (v8,())).2 !=0||!v9||! Bl.fn (v8,())) (Q false) (AB .i64 (y10+1)∧R10 (y10+1))) (Q (Ak.fn ()))) 0) λJ9=>cond (v6.2==0) (((y8.2.2.2.2.length+List.length [v6.1])*32≤140737488355328∧y8.2.2.2.2.length+List.length [v6.1]≤9223372036854775807)∧J9 (v6.2,(v6.1,(x3,(x2,(x0,y8.2.2.2.2++[v6.1])))))) (J9 (v6.2,(v6.1,(x3,(x2,(x0,y8.2.2.2.2))))))) λJ8=>cond (v5.2==0) (((y7.2.2.2.2.length+List.length [v5.1])*32≤140737488355328∧y7.2.2.2.2.length+List.length [v5.1]≤9223372036854775807)∧J8 (v5.2,(v5.1,(x1,(x0,y7.2.2.2.2++[v5.1]))))) (J8 (v5.2,(v5.1,(x1,(x0,y7.2.2.2.2)))))) λJ7=>cond (v4.2==0) (((y6.2.2.2.2.length+List.length [v4.1])*32≤140737488355328∧y6.2.2.2.2.length+List.length [v4.1]≤9223372036854775807)∧J7 (v4.2,(v4.1,(x1,(x0,y6.2.2.2.2++[v4.1]))))) (J7 (v4.2,(v4.1,(x1,(x0,y6.2.2.2.2)))))) λJ6=>cond (v3.2==0) (((y5.2.2.2.length+List.length [v3.1])*32≤140737488355328∧y5.2.2.2.length+List.length [v3.1]≤9223372036854775807)∧J6 (v3.2,(v3.1,(x1,(x0,y5.2.2.2++[v3.1]))))) (J6 (v3.2,(v3.1,(x1,(x0,y5.2.2.2)))))) λJ5=>cond ((Ap.fn (x0,())).2==0) (((v1+v2.length)*32≤140737488355328∧v1+v2.length≤9223372036854775807)∧J5 ((Ap.fn (x0,())).2,((Ap.fn (x0,())).1,(x0,([]:List (Int×List (List O)))++v2)))) (J5 ((Ap.fn (x0,())).2,((Ap.fn (x0,())).1,(x0,([]:List (Int×List (List O))))))))
theorem CF.snoc{l:List AG}{s:AG}{n:Nat}(h:(∀t∈l,CF t)∧l.length≤n)(hs:CF s):(∀t∈l++[s],CF t)∧(l++[s]).length≤n+1:=by
 refine⟨λt ht=>?_,by simp only[yU,yX,zF];omega⟩;rcases List.mem_append.1 ht with ht|ht;·exact h.1 t ht
 ·simp only[zC]at ht;subst ht;exact hs
theorem law04_SetStays.spec(a b:AG)(i v:Int):law04_SetStays.wp a b i v λr=>r=true:=by unfold law04_SetStays.wp;have eN:∀s:AG,Ap.fn (s,())=A1 s:=λ_=>rfl;have eU:EU.fn (a,(b,()))=Er a b:=rfl;have eM:ER.fn (a,(b,()))=Ef a b:=rfl;have eX:C3.fn (a,(b,()))=BQ a b:=rfl;have eF:Dh.fn (a,(i,(v,())))=DC a i v:=rfl;simp only[eN,eU,eM,eX,eF,Ak.fn];cases BK.fn ((10:Int),((10:Int),([a,b],())))with|false=>simp|true=>
 simp only[zU,yN];refine Fr.of (P:=λy=>(∀s∈y.2.2.2,CF s)∧y.2.2.2.length≤1) ?_ ?_
 ·rintro⟨_,_,_,l1⟩II;simp only at II⊢;refine Fr.of (P:=λy=>(∀s∈y.2.2.2.2,CF s)∧y.2.2.2.2.length≤2) ?_ ?_
  ·rintro⟨_,_,_,_,l2⟩Ly;simp only at Ly⊢;refine Fr.of (P:=λy=>(∀s∈y.2.2.2.2,CF s)∧y.2.2.2.2.length≤3) ?_ ?_
   ·rintro⟨_,_,_,_,l3⟩MA;simp only at MA⊢;refine Fr.of (P:=λy=>(∀s∈y.2.2.2.2,CF s)∧y.2.2.2.2.length≤4) ?_ ?_
    ·rintro⟨_,_,_,_,l4⟩MB;simp only at MB⊢;refine Fr.of (P:=λy=>(∀s∈y.2.2.2.2.2,CF s)∧y.2.2.2.2.2.length≤5) ?_ ?_
     ·rintro⟨_,_,_,_,_,l⟩hl;simp only at hl⊢;refine Lp.iter l.length (λj z=>z=(j:Int)) rfl ?_;rintro j z hj rfl R hR;by_cases e:j<l.length;·simp only[yO (show(j:Int)<(l.length:Int)by omega),yQ,yR];have hs:=hl.1 _ (AX (d:=((0:Int),([]:List (List O)))) e);generalize l.getD j ((0:Int),([]:List (List O)))=s at hs⊢;obtain⟨hv,hn⟩:=hs;have eV:Bl.fn (s,())=true:=hv;have eS:DP.fn (s,(s,()))=true:=yO rfl;simp only[hn,eV,eS];exact⟨⟨by omega,by omega⟩,e,λh=>⟨h,h,trivial⟩,λh=>⟨h,trivial⟩,λ_=>rfl,λh=>⟨h,trivial⟩,λh=>⟨h,trivial⟩,λ_=>rfl,⟨by omega,by omega⟩,hR e _ rfl⟩
      ·have :j=l.length:=by omega
       subst this;simp only[yY,yZ,yN]
     ·intro R hR;by_cases h:(DC a i v).2=0;·simp only[h,ZAG,yR];exact⟨⟨by simp only[yX,zF];omega,by simp only[yX,zF];omega⟩,hR _ (CF.snoc MB (Xk h))⟩
      ·rw[beq_eq_false_iff_ne.2 h];exact hR _ ⟨MB.1,by show l4.length≤5;omega⟩
    ·intro R hR;by_cases h:(BQ a b).2=0;·simp only[h,ZAG,yR];exact⟨⟨by simp only[yX,zF];omega,by simp only[yX,zF];omega⟩,hR _ (CF.snoc MA (aB h))⟩
     ·rw[beq_eq_false_iff_ne.2 h];exact hR _ ⟨MA.1,by show l3.length≤4;omega⟩
   ·intro R hR;by_cases h:(Ef a b).2=0;·simp only[h,ZAG,yR];exact⟨⟨by simp only[yX,zF];omega,by simp only[yX,zF];omega⟩,hR _ (CF.snoc Ly (Z5 h))⟩
    ·rw[beq_eq_false_iff_ne.2 h];exact hR _ ⟨Ly.1,by show l2.length≤3;omega⟩
  ·intro R hR;by_cases h:(Er a b).2=0;·simp only[h,ZAG,yR];exact⟨⟨by simp only[yX,zF];omega,by simp only[yX,zF];omega⟩,hR _ (CF.snoc II (dT h))⟩
   ·rw[beq_eq_false_iff_ne.2 h];exact hR _ ⟨II.1,by show l1.length≤2;omega⟩
 ·intro R hR;by_cases h:(A1 a).2=0;·simp only[h,ZAG,yR];exact⟨⟨by simp,by simp⟩,hR _ (CF.snoc (l:=[]) (n:=0) ⟨λt ht=>(by cases ht),zB _⟩ (aS h))⟩
  ·rw[beq_eq_false_iff_ne.2 h];exact hR _ ⟨λt ht=>(by cases ht),ZAl _⟩
def law04_SetPoints.wp(x0:Int×List (List O))(x1:Int×List (List O))(x2:List Int)(x3:Int)(x4:Int)(Q:Bool→Prop):Prop:=let v1:=D9.fn (x0,(x2,()));let v2:=D9.fn (x1,(x2,()));let v3:=EU.fn (x0,(x1,()));let v5:=ER.fn (x0,(x1,()));let v7:=C3.fn (x0,(x1,()));let v11:=Dh.fn (x0,(x3,( x2.getD x3.toNat 0,())));let v12:=List.length ([]:List Int);let v13:=List.take x3.toNat x2;let v14:=List.length (([]:List Int)++v13);let v15:=Int.toNat (x3+1);let v16:=List.length (List.drop v15 x2);let v18:=Dh.fn (x0,(x3,(x4,())));let v19:=List.length (([]:List Int)++x2);let v20:=List.set (([]:List Int)++x2) x3.toNat x4;let v21:=Ax.fn (v18.1,(([]:List Int)++v13++List.drop v15 x2,()));let v22:=Ax.fn (x0,(v20,()));cond (! BK.fn (12,(12,([x0,x1],())))) (Q (Ak.fn ())) (( ! v1.2 !=0=true→! v1.2 !=0=true∧True)∧((v1.2 !=0)=false→(! v1.2 !=0)=true)∧cond ( v1.2 !=0||v2.2 !=0) (Q (Ak.fn ())) (((v3.2==0)=true→(v3.2==0)=true∧(v3.2==0)=true∧Ax.pre (v3.1,(x2,())))∧((v3.2==0)=true→(v3.2==0)=true∧True)∧((v3.2==0)=true→(v3.2==0)=true∧(v1.1=false→( v3.2==0&&!v1.1)=true))∧((v3.2==0)=true→(v3.2==0)=true∧(v3.2==0)=true∧True)∧((v3.2==0)=true→(v3.2==0)=true)∧cond ( v3.2==0&&Ax.fn (v3.1,(x2,()))!=(v1.1||v2.1)) (Q false) (((v5.2==0)=true→(v5.2==0)=true∧(v5.2==0)=true∧Ax.pre (v5.1,(x2,())))∧((v5.2==0)=true→(v5.2==0)=true∧True)∧((v5.2==0)=true→(v5.2==0)=true∧(v1.1=true→( v5.2==0&&v1.1)=true))∧((v5.2==0)=true→(v5.2==0)=true∧(v5.2==0)=true∧True)∧((v5.2==0)=true→(v5.2==0)=true)∧cond ( v5.2==0&&Ax.fn (v5.1,(x2,()))!=(v1.1&&v2.1)) (Q false) (((v7.2==0)=true→(v7.2==0)=true∧(v7.2==0)=true∧Ax.pre (v7.1,(x2,())))∧((v7.2==0)=true→(v7.2==0)=true∧True)∧(( v7.2==0&&v1.1)=true→( v7.2==0&&v1.1)=true∧True)∧((v7.2==0)=true→(v7.2==0)=true∧(v1.1=true→( v7.2==0&&v1.1)=true))∧((v7.2==0)=true→(v7.2==0)=true∧(v7.2==0)=true∧True)∧((v7.2==0)=true→(v7.2==0)=true)∧cond ( v7.2==0&&Ax.fn (v7.1,(x2,()))!=(v1.1&&!v2.1)) (Q false) ((((Ap.fn (x0,())).2==0)=true→((Ap.fn (x0,())).2==0)=true∧((Ap.fn (x0,())).2==0)=true∧Ax.pre ((Ap.fn (x0,())).1,(x2,())))∧(((Ap.fn (x0,())).2==0)=true→((Ap.fn (x0,())).2==0)=true∧((Ap.fn (x0,())).2==0)=true∧True)∧(((Ap.fn (x0,())).2==0)=true→((Ap.fn (x0,())).2==0)=true)∧cond ((Ap.fn (x0,())).2==0&&Ax.fn ((Ap.fn (x0,())).1,(x2,()))!=v1.1) (Q false) ((decide (0≤x3)=true→decide (0≤x3)=true∧True)∧(decide (0≤x3)=true→decide (0≤x3)=true∧decide (0≤x3)=true∧True)∧(decide (0≤x3)=true→decide (0≤x3)=true)∧cond (decide (0≤x3)&&decide (x3<x2.length)) ((0≤x3∧x3<x2.length)∧cond (v11.2==0) ((true=true→true=true∧true=true∧0≤x3∧x3≤x2.length)∧(true=true→true=true∧(v12+v13.length)*8≤140737488355328∧v12+v13.length≤9223372036854775807)∧(true=true→true=true∧AB .i64 (x3+1))∧(true=true→true=true∧true=true∧0≤x3+1∧x3+1≤x2.length)∧(true=true→true=true∧(v14+v16)*8≤140737488355328∧v14+v16≤9223372036854775807)∧(true=true→true=true∧Ax.pre (v11.1,(([]:List Int)++v13++List.drop v15 x2,())))∧(true=true→true=true∧true=true∧True)∧(true=true→true=true)∧cond (true&&Ax.fn (v11.1,(([]:List Int)++v13++List.drop v15 x2,()))!=v1.1) (Q false) (cond (v18.2==0) (((v12+x2.length)*8≤140737488355328∧v12+x2.length≤9223372036854775807)∧(0≤x3∧x3<((v19:Nat):Int))∧Int.toNat x3<v19∧(0≤x3∧x3≤x2.length)∧((v12+v13.length)*8≤140737488355328∧v12+v13.length≤9223372036854775807)∧AB .i64 (x3+1)∧(0≤x3+1∧x3+1≤x2.length)∧((v14+v16)*8≤140737488355328∧v14+v16≤9223372036854775807)∧Ax.pre (v18.1,(([]:List Int)++v13++List.drop v15 x2,()))∧Ax.pre (x0,(v20,()))∧cond (v21 !=v22) (Q false) (Q (Ak.fn ()))) (Q (Ak.fn ())))) ((false=true→false=true∧false=true∧0≤x3∧x3≤x2.length)∧(false=true→false=true∧AB .i64 (x3+1))∧(false=true→false=true∧false=true∧0≤x3+1∧x3+1≤x2.length)∧(false=true→false=true∧false=true∧True)∧(false=true→false=true)∧cond (v18.2==0) (((v12+x2.length)*8≤140737488355328∧v12+x2.length≤9223372036854775807)∧(0≤x3∧x3<((v19:Nat):Int))∧Int.toNat x3<v19∧(0≤x3∧x3≤x2.length)∧((v12+v13.length)*8≤140737488355328∧v12+v13.length≤9223372036854775807)∧AB .i64 (x3+1)∧(0≤x3+1∧x3+1≤x2.length)∧((v14+v16)*8≤140737488355328∧v14+v16≤9223372036854775807)∧Ax.pre (v18.1,(([]:List Int)++v13++List.drop v15 x2,()))∧Ax.pre (x0,(v20,()))∧cond (v21 !=v22) (Q false) (Q (Ak.fn ()))) (Q (Ak.fn ())))) (cond (v18.2==0) (((v12+x2.length)*8≤140737488355328∧v12+x2.length≤9223372036854775807)∧(0≤x3∧x3<((v19:Nat):Int))∧Int.toNat x3<v19∧(0≤x3∧x3≤x2.length)∧((v12+v13.length)*8≤140737488355328∧v12+v13.length≤9223372036854775807)∧AB .i64 (x3+1)∧(0≤x3+1∧x3+1≤x2.length)∧((v14+v16)*8≤140737488355328∧v14+v16≤9223372036854775807)∧Ax.pre (v18.1,(([]:List Int)++v13++List.drop v15 x2,()))∧Ax.pre (x0,(v20,()))∧cond (v21 !=v22) (Q false) (Q (Ak.fn ()))) (Q (Ak.fn ())))))))))
theorem XN(v:Int):∀(C x:List Int)(i:Nat),C.length=x.length→i<C.length→Az C (x.set i v)=Az (BV C i) (BV x i)+v*C.getD i 0|[],_,_,_,h=>by simp at h|_::_,[],_,h,_=>by simp at h|c::C,y::x,0,_,_=>by simp[BV,Az,ZCK];omega|c::C,y::x,i+1,h,h2=>by have ih:=XN v C x i (by simpa using h) (by simpa using h2);have e1:BV (c::C) (i+1)=c::BV C i:=rfl;have e2:BV (y::x) (i+1)=y::BV x i:=rfl;rw[e1,e2,List.set_cons_succ];simp only[Az,ZCF,ih];omega
theorem Xj{c:O}{i:Nat}{v:Int}{x:List Int}(h:c.2.2.1.length=x.length)(hi:i<x.length):Ao (EK i v c) (BV x i)=Ao c (x.set i v):=by
 have e:BP (EK i v c) (BV x i)=BP c (x.set i v):=by unfold BP;rw[XN v _ _ _ h (by omega)];show c.2.2.2+v*c.2.2.1.getD i 0+Az (BV c.2.2.1 i) (BV x i)=_;omega
 rw[Za,Za,e];rfl
theorem kX{p:List O}{i n:Nat}{v:Int}{x:List Int}(hd:Am p n)(hx:x.length=n)(hi:i<n):BD (p.map (EK i v)) (BV x i)=BD p (x.set i v):=by
 unfold BD;rw[List.all_map,ZAc,ZAP,ZAP];constructor;·intro h c hc;rw[←Xj (by rw[hd c hc,hx]) (by omega)];exact h c hc
 ·intro h c hc;show Ao (EK i v c) (BV x i)=true;rw[Xj (by rw[hd c hc,hx]) (by omega)];exact h c hc
theorem Xm{s:AG}{i v:Int}(h:(DC s i v).2=0):AD s=true∧(0≤i∧i<s.1∧-4294967296≤v∧v≤4294967296)∧AD (DC s i v).1=true∧(DC s i v).1.1=s.1-1∧∀x:List Int,x.length=s.1.toNat→Ac (DC s i v).1.2 (BV x i.toNat)=Ac s.2 (x.set i.toNat v):=by
 have Yw:=Xk h;refine⟨?_,?_,Yw.1,?_⟩
 ·unfold DC at h;split at h;·cases h
  ·rename_i hv;simpa using hv
 ·unfold DC at h;split at h;·cases h
  ·split at h;·cases h
   ·rename_i hb;omega
 ·clear Yw;unfold DC at h⊢;split at h;·cases h
  ·rename_i hv;split at h;·cases h
   ·rename_i hb;rw[yP hv,yP hb];have hv:AD s=true:=by simpa using hv
    have ID:=AD.b hv;obtain⟨out,h1,h2⟩:=Jk h;rw[h2];refine⟨rfl,λx hx=>?_⟩;rw[Q8 (n:=s.1.toNat-1) (BV x i.toNat) (λp hp=>?_) h1]
    ·unfold Ac;rw[ZDA,ZAc,ZBN,ZBN];have e:∀p∈s.2,BD (p.map (EK i.toNat v)) (BV x i.toNat)=BD p (x.set i.toNat v):=λp hp=>kX (AD.D hv hp).2 hx (by omega);constructor;·rintro⟨p,hp,h⟩;exact⟨p,hp,by rw[←e p hp];exact h⟩
     ·rintro⟨p,hp,h⟩;exact⟨p,hp,by show BD (p.map (EK i.toNat v)) (BV x i.toNat)=true;rw[e p hp];exact h⟩
    ·obtain⟨q,hq,rfl⟩:=List.mem_map.1 hp;have hm:=AD.piece hv hq;exact⟨Ph hm.1 hm.2 (by omega),Sy (AD.D hv hq).2 (by omega)⟩
theorem QO{s:AG}{x:List Int}(hv:AD s=true)(hl:x.length=s.1.toNat)(hc:x.all Bm=true):Ax.pre (s,(x,())):=O0 (cD hv) hl hc
theorem uI{x:List Int}{i:Nat}:x.set i (x.getD i 0)=x:=by
 apply ZAZ;intro j;rw[ZC3];split
 ·rename_i e;subst e;by_cases h:i<x.length;·simp[h,yT]
  ·simp[h]
 ·rfl
theorem law04_SetPoints.spec(a b:AG)(x:List Int)(i v:Int):law04_SetPoints.wp a b x i v λr=>r=true:=by unfold law04_SetPoints.wp;intro v1 v2 v3 v5 v7 v11 v12 v13 v14 v15 v16 v18 v19 v20 v21 v22;have ea:Ak.fn ()=true:=rfl;cases BK.fn ((12:Int),((12:Int),([a,b],())))with|false=>exact ea|true=>
 show _∧_∧_;refine⟨λh=>⟨h,trivial⟩,λh=>by rw[h];rfl,?_⟩;by_cases h1:v1.2=0
 ·by_cases h2:v2.2=0
  ·rw[h1,h2];show _∧_;obtain⟨va,la,hc,ia⟩:=TR (s:=a) (x:=x) h1;obtain⟨vb,lb,_,ib⟩:=TR (s:=b) (x:=x) h2;have ia:v1.1=Ac a.2 x:=ia;have ib:v2.1=Ac b.2 x:=ib;have xG:=AD.b va;have pre:∀s:AG,AD s=true→s.1=a.1→Ax.pre (s,(x,())):=λs hv he=>QO hv (by rw[he];exact la) hc;have fin:cond (v18.2==(0:Int)) (((v12+List.length x)*8≤140737488355328∧v12+List.length x≤9223372036854775807)∧((0:Int)≤i∧i<((v19:Nat):Int))∧Int.toNat i<v19∧((0:Int)≤i∧i≤((List.length x:Nat):Int))∧((v12+List.length v13)*8≤140737488355328∧v12+List.length v13≤9223372036854775807)∧AB IntKind.i64 (i+(1:Int))∧((0:Int)≤i+(1:Int)∧i+(1:Int)≤((List.length x:Nat):Int))∧((v14+v16)*8≤140737488355328∧v14+v16≤9223372036854775807)∧Ax.pre (v18.1,(([]:List Int)++v13++List.drop v15 x,()))∧Ax.pre (a,(v20,()))∧cond (v21 !=v22) (false=true) (Ak.fn ()=true)) (Ak.fn ()=true):=by
    by_cases h:v18.2=0
    ·obtain⟨_,⟨hi0,hi1,yJ,Cv⟩,CT,hd,hin⟩:=Xm (s:=a) (i:=i) (v:=v) h;obtain⟨n,rfl⟩:∃n:Nat,i=n:=⟨i.toNat,by omega⟩;have hn:n<x.length:=by omega
     have e15:v15=n+1:=by show((n:Int)+1).toNat=_;omega
     have ecut:([]:List Int)++v13++List.drop v15 x=BV x n:=by rw[e15];rfl
     have eset:v20=x.set n v:=rfl;have MC:(BV x n).length=v18.1.1.toNat:=by rw[SC hn];have :v18.1.1=a.1-1:=hd;rw[this];omega
     have KR:(BV x n).all Bm=true:=by rw[ZAP]at hc⊢;exact λm hm=>hc m (SD hm)
     have hcs:(x.set n v).all Bm=true:=by
      rw[ZAP]at hc⊢;intro m hm;rcases ZC7 hm with h|h;·exact hc m h
      ·subst h;simp only[Bm,zN,ZAC];omega
     have l1:v13.length≤x.length:=by show(List.take _ x).length≤_;rw[zG];omega
     have l2:v14≤x.length:=by show(([]:List Int)++v13).length≤_;simpa using l1
     have l3:v16≤x.length:=by show(List.drop _ x).length≤_;rw[ZAF];omega
     have l4:v12=0:=rfl;have l5:v19=x.length:=rfl;rw[h];show _∧_;refine⟨⟨by omega,by omega⟩,⟨by omega,by omega⟩,by rw[l5,yQ];exact hn,⟨by omega,by omega⟩,⟨by omega,by omega⟩,⟨by omega,by omega⟩,⟨by omega,by omega⟩,⟨by omega,by omega⟩,?_,?_,?_⟩;·rw[ecut];exact QO CT MC KR
     ·rw[eset];exact QO va (by rw[ZCI];exact la) hcs
     ·have e21:v21=Ac v18.1.2 (BV x n):=by show Ax.fn (v18.1,(([]:List Int)++v13++List.drop v15 x,()))=_;rw[ecut];rfl
      have e22:v22=Ac a.2 (x.set n v):=rfl;have :=hin x la;rw[yQ]at this;have e:v21=v22:=by rw[e21,e22];exact this
      rw[e];simp only[zJ,yN]
    ·rw[beq_eq_false_iff_ne.2 h];exact ea
   have cU:( v3.2==(0:Int)&&Ax.fn (v3.1,(x,()))!=(v1.1||v2.1))=false:=by
    by_cases h:v3.2=0
    ·have e:Ax.fn (v3.1,(x,()))=(v1.1||v2.1):=by rw[ia,ib];exact(dU x h).1
     rw[e];simp
    ·rw[beq_eq_false_iff_ne.2 h];rfl
   have cM:( v5.2==(0:Int)&&Ax.fn (v5.1,(x,()))!=(v1.1&&v2.1))=false:=by
    by_cases h:v5.2=0
    ·have e:Ax.fn (v5.1,(x,()))=(v1.1&&v2.1):=by rw[ia,ib];exact(Z6 x h).1
     rw[e];simp
    ·rw[beq_eq_false_iff_ne.2 h];rfl
   have cX:( v7.2==(0:Int)&&Ax.fn (v7.1,(x,()))!=(v1.1&&!v2.1))=false:=by
    by_cases h:v7.2=0
    ·have e:Ax.fn (v7.1,(x,()))=(v1.1&&!v2.1):=by rw[ia,ib];exact(Kt (a:=a) (b:=b) h).2.2.2 x
     rw[e];simp
    ·rw[beq_eq_false_iff_ne.2 h];rfl
   have cN:((Ap.fn (a,())).2==(0:Int)&&Ax.fn ((Ap.fn (a,())).1,(x,()))!=v1.1)=false:=by
    by_cases h:(Ap.fn (a,())).2=0
    ·have e:Ax.fn ((Ap.fn (a,())).1,(x,()))=v1.1:=by rw[ia];exact(ON x h).1
     rw[e];simp
    ·rw[beq_eq_false_iff_ne.2 h];rfl
   have beq0:∀n:Int,(n==0)=true→n=0:=λn h=>by simpa using h
   refine⟨λh=>⟨h,h,pre _ (dT (beq0 _ h)).1 (dU x (beq0 _ h)).2⟩,λh=>⟨h,trivial⟩,λh=>⟨h,λe=>by rw[h,e];rfl⟩,λh=>⟨h,h,trivial⟩,λh=>h,?_⟩;have hn:=λ(h:(decide ((0:Int)≤i)&&decide (i<((List.length x:Nat):Int)))=true)=>by
    have :0≤i∧i<(x.length:Int):=by simpa using h
    exact this
   rw[cU];refine⟨λh=>⟨h,h,pre _ (Z5 (beq0 _ h)).1 (Z6 x (beq0 _ h)).2⟩,λh=>⟨h,trivial⟩,λh=>⟨h,λe=>by rw[h,e];rfl⟩,λh=>⟨h,h,trivial⟩,λh=>h,?_⟩;rw[cM];refine⟨λh=>⟨h,h,pre _ (aB (beq0 _ h)).1 (Kt (a:=a) (b:=b) (beq0 _ h)).2.2.1⟩,λh=>⟨h,trivial⟩,λh=>⟨h,trivial⟩,λh=>⟨h,λe=>by rw[h,e];rfl⟩,λh=>⟨h,h,trivial⟩,λh=>h,?_⟩;rw[cX];refine⟨λh=>⟨h,h,pre _ (aS (beq0 _ h)).1 (ON x (beq0 _ h)).2.1⟩,λh=>⟨h,h,trivial⟩,λh=>h,?_⟩;rw[cN];refine⟨λh=>⟨h,trivial⟩,λh=>⟨h,h,trivial⟩,λh=>h,?_⟩;cases hb:decide ((0:Int)≤i)&&decide (i<((List.length x:Nat):Int))with|false=>exact fin|true=>
    obtain⟨hi0,hi1⟩:=hn hb;refine⟨⟨hi0,hi1⟩,?_⟩;by_cases h:v11.2=0
    ·obtain⟨_,_,CT,hd,hin⟩:=Xm (s:=a) (i:=i) (v:=x.getD i.toNat 0) h;have CT:AD v11.1=true:=CT;have hd:v11.1.1=a.1-1:=hd;have FR:i.toNat<x.length:=by omega
     have e15:v15=i.toNat+1:=by show(i+1).toNat=_;omega
     have ecut:([]:List Int)++v13++List.drop v15 x=BV x i.toNat:=by rw[e15];rfl
     have MC:(BV x i.toNat).length=v11.1.1.toNat:=by rw[SC FR,hd];omega
     have KR:(BV x i.toNat).all Bm=true:=by rw[ZAP]at hc⊢;exact λm hm=>hc m (SD hm)
     have l1:v13.length≤x.length:=by show(List.take _ x).length≤_;rw[zG];omega
     have l2:v14≤x.length:=by show(([]:List Int)++v13).length≤_;simpa using l1
     have l3:v16≤x.length:=by show(List.drop _ x).length≤_;rw[ZAF];omega
     have l4:v12=0:=rfl;have cF:(true&&Ax.fn (v11.1,(([]:List Int)++v13++List.drop v15 x,()))!=v1.1)=false:=by
      rw[ecut];have e:Ax.fn (v11.1,(BV x i.toNat,()))=v1.1:=by rw[ia];have :=hin x la;rw[uI]at this;exact this
      rw[e];simp
     rw[h];refine⟨λt=>⟨t,t,by omega,by omega⟩,λt=>⟨t,by omega,by omega⟩,λt=>⟨t,by constructor<;>omega⟩,λt=>⟨t,t,by omega,by omega⟩,λt=>⟨t,by omega,by omega⟩,λt=>⟨t,?_⟩,λt=>⟨t,t,trivial⟩,λt=>t,?_⟩;·rw[ecut];exact QO CT MC KR
     ·rw[cF];exact fin
    ·rw[beq_eq_false_iff_ne.2 h];exact⟨λt=>(by cases t),λt=>(by cases t),λt=>(by cases t),λt=>(by cases t),λt=>t,fin⟩
  ·rw[show( v1.2 !=(0:Int)||v2.2 !=(0:Int))=true by rw[bne_iff_ne.2 h2,ZBD]];exact ea
 ·rw[show( v1.2 !=(0:Int)||v2.2 !=(0:Int))=true by rw[bne_iff_ne.2 h1];rfl];exact ea
def VQ(l:AT)(i k:Int):AT:=(l.1.take i.toNat++List.replicate k.toNat 0++l.1.drop i.toNat,l.2)
def I5(l:AT)(i k:Int):AT×Int:=if BI l=false then(([],0),1)else if i<0∨(l.1.length:Int)<i∨k<0 then(([],0),6)else if 12-(l.1.length:Int)<k then(([],0),3)else(VQ l i k,0)
abbrev F5.fn(x:AT×Int×Int×Unit):AT×Int:=I5 x.1 x.2.1 x.2.2.1
abbrev F7.fn(x:AT×Int×Int×Unit):AT×Int:=I5 x.1 x.2.1 x.2.2.1
abbrev ET.fn(x:AT×Int×Int×Unit):AT:=(I5 x.1 x.2.1 x.2.2.1).1
abbrev ET.pre(x:AT×Int×Int×Unit):Prop:=True
def PZ(s:AG)(n:Int)(f:AT→AT):AG:=(n,s.2.map λp=>p.map λc=>(c.1,c.2.1,f c.2.2))
abbrev Dj.fn(x:AG×Int×((AT→Prop)×(AT→AT))×Unit):AG:=PZ x.1 x.2.1 x.2.2.1.2
abbrev Dj.pre(x:AG×Int×((AT→Prop)×(AT→AT))×Unit):Prop:=x.1.2.length≤400∧∀p∈x.1.2,p.length≤96∧∀c∈p,x.2.2.1.1 c.2.2
def LB(s:AG)(i k:Int):AG×Int:=if AD s=false then((0,[]),1)else if i<0∨s.1<i∨k<0 then((0,[]),6)else if 12-s.1<k then((0,[]),3)else(PZ s (s.1+k) λl=>(I5 l i k).1,0)
abbrev GA.fn(x:AG×Int×Int×Unit):AG×Int:=LB x.1 x.2.1 x.2.2.1
abbrev F8.fn(x:AG×Int×Int×Unit):AG×Int:=LB x.1 x.2.1 x.2.2.1
def Ga(n:Int)(l:List Int):Bool:=decide (∀v∈l,0≤v∧v<n)&&decide l.Nodup
def Oo(l:List Int)(x:AT):AT:=(l.map λv=>x.1.getD v.toNat 0,x.2)
def Gy(s:AG)(l:List Int):AG×Int:=if AD s=false then((0,[]),1)else if(l.length:Int)≠s.1 then((0,[]),2)else if Ga s.1 l=false then((0,[]),6)else(PZ s s.1 (Oo l),0)
abbrev Di.fn(x:AT×List Int×Unit):AT:=Oo x.2.1 x.1
abbrev Di.pre(x:AT×List Int×Unit):Prop:=x.1.1.length≤12∧x.2.1.length=x.1.1.length∧∀v∈x.2.1,0≤v∧v<(x.1.1.length:Int)
abbrev GB.fn(x:AG×List Int×Unit):AG×Int:=Gy x.1 x.2.1
abbrev F9.fn(x:AG×List Int×Unit):AG×Int:=Gy x.1 x.2.1
def F5.wp(x0:AT)(x1:Int)(x2:Int)(Q:AT×Int→Prop):Prop:=let v0:=List.replicate x2.toNat 0;cond (! DF.fn (x0,())) (Q ((([]:List Int),0),1)) (((! decide (x1<0))=true→(! decide (x1<0))=true∧True)∧((! decide (x1<0))=true→(! decide (x1<0))=true∧True)∧((! decide (x1<0))=true→(! decide (x1<0))=true∧(! decide (x1<0))=true∧True)∧(decide (x1<0)=false→(! decide (x1<0))=true)∧((!(decide (x1<0)||decide (x0.1.length<x1)))=true→(!(decide (x1<0)||decide (x0.1.length<x1)))=true∧True)∧((decide (x1<0)||decide (x0.1.length<x1))=false→(!(decide (x1<0)||decide (x0.1.length<x1)))=true)∧cond ( decide (x1<0)||decide (x0.1.length<x1)||decide (x2<0)) (Q ((([]:List Int),0),6)) (AB .i64 (12-x0.1.length)∧cond (decide ( 12-x0.1.length<x2)) (Q ((([]:List Int),0),3)) ( x0.1.length*8≤140737488355328∧(0≤x2∧x2≤x2∧x2*((8:Nat):Int)≤140737488355328∧x2≤9223372036854775807)∧(0≤x1∧x1≤x0.1.length∧(x0.1.length+v0.length)*8≤140737488355328)∧Q (( List.take x1.toNat x0.1++v0++List.drop x1.toNat x0.1,x0.2),0))))
def F7.wp(x0:AT)(x1:Int)(x2:Int)(Q:AT×Int→Prop):Prop:=let v0:=List.take x1.toNat x0.1;let v1:=List.replicate x2.toNat 0;let v2:=List.length (v0++v1);let v3:=List.drop x1.toNat x0.1;cond (! Em.fn (x0,())) (Q ((([]:List Int),0),1)) (((! decide (x1<0))=true→(! decide (x1<0))=true∧True)∧((! decide (x1<0))=true→(! decide (x1<0))=true∧True)∧((! decide (x1<0))=true→(! decide (x1<0))=true∧(! decide (x1<0))=true∧True)∧(decide (x1<0)=false→(! decide (x1<0))=true)∧((!(decide (x1<0)||decide (x0.1.length<x1)))=true→(!(decide (x1<0)||decide (x0.1.length<x1)))=true∧True)∧((decide (x1<0)||decide (x0.1.length<x1))=false→(!(decide (x1<0)||decide (x0.1.length<x1)))=true)∧cond ( decide (x1<0)||decide (x0.1.length<x1)||decide (x2<0)) (Q ((([]:List Int),0),6)) (AB .i64 (12-x0.1.length)∧cond (decide ( 12-x0.1.length<x2)) (Q ((([]:List Int),0),3)) ((0≤x1∧x1≤x0.1.length)∧( v0.length*8≤140737488355328∧v0.length≤9223372036854775807)∧(0≤x2∧(v0.length+Int.toNat x2)*8≤140737488355328∧v0.length+Int.toNat x2≤9223372036854775807)∧(0≤x1∧x1≤x0.1.length)∧((v2+v3.length)*8≤140737488355328∧v2+v3.length≤9223372036854775807)∧Q (( v0++v1++v3,x0.2),0))))
def ET.wp(x0:AT)(x1:Int)(x2:Int)(Q:AT→Prop):Prop:=Q (F5.fn (x0,(x1,(x2,())))).1
def Dj.wp(x0:Int×List (List O))(x1:Int)(x2:(AT→Prop)×(AT→AT))(Q:Int×List (List O)→Prop):Prop:=(0≤(x0.2.length:Int)∧x0.2.length≤(x0.2.length:Int)∧x0.2.length*((24:Nat):Int)≤140737488355328∧(x0.2.length:Int)≤9223372036854775807)∧Lp (σ:=Int×List (List O)×Nat) (λy4 R4=>let v1:=x0.2.getD y4.1.toNat ([]:List O);cond (decide (y4.1<x0.2.length)) ((0≤y4.1∧y4.1<x0.2.length)∧0<y4.2.2∧Lp (σ:=Int×( List (List O)×Nat)×List O) (λy6 R6=>let v2:=v1.getD y6.1.toNat U;let v3:=[(v2.1,(v2.2.1,x2.2 v2.2.2))];cond (decide (y6.1<v1.length)) ((0≤y6.1∧y6.1<v1.length)∧(0≤y4.1∧y4.1<(( y6.2.1.1.length+1+y6.2.1.2:Nat):Int))∧Int.toNat y4.1=y6.2.1.1.length∧x2.1 v2.2.2∧((y6.2.2.length+v3.length)*48≤140737488355328∧y6.2.2.length+v3.length≤9223372036854775807)∧(0≤y4.1∧y4.1<(( y6.2.1.1.length+1+y6.2.1.2:Nat):Int))∧Int.toNat y4.1=y6.2.1.1.length∧AB .i64 (y6.1+1)∧R6 ( y6.1+1,(y6.2.1,y6.2.2++v3))) (AB .i64 (y4.1+1)∧R4 ( y4.1+1,( y6.2.1.1++[y6.2.2],y6.2.1.2)))) (0,((y4.2.1,y4.2.2-1),([]:List O)))) (Q (x1,y4.2.1++.replicate y4.2.2 ([]:List O)))) (0,(([]:List (List O)),Int.toNat x0.2.length))
def GA.wp(x0:Int×List (List O))(x1:Int)(x2:Int)(Q:(Int×List (List O))×Int→Prop):Prop:=cond (! Bf.fn (x0,())) (Q ((0,([]:List (List O))),1)) (((! decide (x1<0))=true→(! decide (x1<0))=true∧True)∧((! decide (x1<0))=true→(! decide (x1<0))=true∧(! decide (x1<0))=true∧True)∧(decide (x1<0)=false→(! decide (x1<0))=true)∧((!(decide (x1<0)||decide (x0.1<x1)))=true→(!(decide (x1<0)||decide (x0.1<x1)))=true∧True)∧((decide (x1<0)||decide (x0.1<x1))=false→(!(decide (x1<0)||decide (x0.1<x1)))=true)∧cond ( decide (x1<0)||decide (x0.1<x1)||decide (x2<0)) (Q ((0,([]:List (List O))),6)) (AB .i64 (12-x0.1)∧cond (decide ( 12-x0.1<x2)) (Q ((0,([]:List (List O))),3)) (AB .i64 (x0.1+x2)∧Dj.pre (x0,( x0.1+x2,((λ(a4:List Int×Int)=>ET.pre (a4,(x1,(x2,()))),λ(a4:List Int×Int)=>ET.fn (a4,(x1,(x2,())))),())))∧Q ( Dj.fn (x0,( x0.1+x2,((λ(a4:List Int×Int)=>ET.pre (a4,(x1,(x2,()))),λ(a4:List Int×Int)=>ET.fn (a4,(x1,(x2,())))),()))),0))))
def Di.wp(x0:AT)(x1:List Int)(Q:AT→Prop):Prop:=(0≤(x0.1.length:Int)∧x0.1.length≤(x0.1.length:Int)∧x0.1.length*((8:Nat):Int)≤140737488355328∧(x0.1.length:Int)≤9223372036854775807)∧Lp (σ:=Int×List Int) (λy3 R3=>let v2:=x1.getD y3.1.toNat 0;cond (decide (y3.1<x1.length)) ((0≤y3.1∧y3.1<x1.length)∧(0≤v2∧v2<x0.1.length)∧(0≤y3.1∧y3.1<y3.2.length)∧Int.toNat y3.1<y3.2.length∧AB .i64 (y3.1+1)∧R3 ( y3.1+1,List.set y3.2 y3.1.toNat (x0.1.getD v2.toNat 0))) (Q (y3.2,x0.2))) (0,.replicate (Int.toNat x0.1.length) 0)
def GB.wp(x0:Int×List (List O))(x1:List Int)(Q:(Int×List (List O))×Int→Prop):Prop:=cond (! Bf.fn (x0,())) (Q ((0,([]:List (List O))),1)) (cond (x1.length !=x0.1) (Q ((0,([]:List (List O))),2)) (Lp (σ:=Int×List Bool) (λy3 R3=>let v0:=x1.getD y3.1.toNat 0;cond (decide (y3.1<x1.length)) ((0≤y3.1∧y3.1<x1.length)∧((! decide (v0<0))=true→(! decide (v0<0))=true∧True)∧((! decide (v0<0))=true→(! decide (v0<0))=true∧(! decide (v0<0))=true∧True)∧(decide (v0<0)=false→(! decide (v0<0))=true)∧((!(decide (v0<0)||decide (x0.1≤v0)))=true→(!(decide (v0<0)||decide (x0.1≤v0)))=true∧0≤v0∧v0<((12:Nat):Int))∧((!(decide (v0<0)||decide (x0.1≤v0)))=true→(!(decide (v0<0)||decide (x0.1≤v0)))=true∧Int.toNat v0<y3.2.length)∧((decide (v0<0)||decide (x0.1≤v0))=false→(!(decide (v0<0)||decide (x0.1≤v0)))=true)∧cond ( decide (v0<0)||decide (x0.1≤v0)||y3.2.getD v0.toNat false) (Q ((0,([]:List (List O))),6)) ((0≤v0∧v0<((12:Nat):Int))∧Int.toNat v0<y3.2.length∧AB .i64 (y3.1+1)∧R3 ( y3.1+1,List.set y3.2 v0.toNat true))) (Dj.pre (x0,(x0.1,((λ(a5:List Int×Int)=>Di.pre (a5,(x1,())),λ(a5:List Int×Int)=>Di.fn (a5,(x1,()))),())))∧Q ( Dj.fn (x0,(x0.1,((λ(a5:List Int×Int)=>Di.pre (a5,(x1,())),λ(a5:List Int×Int)=>Di.fn (a5,(x1,()))),()))),0))) (0,List.replicate 12 false)))
def F8.wp(x0:Int×List (List O))(x1:Int)(x2:Int)(Q:(Int×List (List O))×Int→Prop):Prop:=cond (! Bl.fn (x0,())) (Q ((0,([]:List (List O))),1)) (((! decide (x1<0))=true→(! decide (x1<0))=true∧True)∧((! decide (x1<0))=true→(! decide (x1<0))=true∧(! decide (x1<0))=true∧True)∧(decide (x1<0)=false→(! decide (x1<0))=true)∧((!(decide (x1<0)||decide (x0.1<x1)))=true→(!(decide (x1<0)||decide (x0.1<x1)))=true∧True)∧((decide (x1<0)||decide (x0.1<x1))=false→(!(decide (x1<0)||decide (x0.1<x1)))=true)∧cond ( decide (x1<0)||decide (x0.1<x1)||decide (x2<0)) (Q ((0,([]:List (List O))),6)) (AB .i64 (12-x0.1)∧cond (decide ( 12-x0.1<x2)) (Q ((0,([]:List (List O))),3)) (AB .i64 (x0.1+x2)∧Lp (σ:=Int×Int×List (List O)) (λy4 R4=>let v0:=x0.2.getD y4.1.toNat ([]:List O);cond (decide (y4.1<x0.2.length)) ((0≤y4.1∧y4.1<x0.2.length)∧Lp (σ:=Int×List O) (λy6 R6=>let v1:=v0.getD y6.1.toNat U;let v3:=[(v1.1,(v1.2.1,(F7.fn (v1.2.2,(x1,(x2,())))).1))];cond (decide (y6.1<v0.length)) ((0≤y6.1∧y6.1<v0.length)∧((y6.2.length+v3.length)*48≤140737488355328∧y6.2.length+v3.length≤9223372036854775807)∧AB .i64 (y6.1+1)∧R6 ( y6.1+1,y6.2++v3)) (((y4.2.2.length+List.length [y6.2])*24≤140737488355328∧y4.2.2.length+List.length [y6.2]≤9223372036854775807)∧AB .i64 (y4.1+1)∧R4 ( y4.1+1,(y4.2.1,y4.2.2++[y6.2])))) (0,([]:List O))) (Q (y4.2,0))) (0,( x0.1+x2,([]:List (List O)))))))
def F9.wp(x0:Int×List (List O))(x1:List Int)(Q:(Int×List (List O))×Int→Prop):Prop:=cond (! Bl.fn (x0,())) (Q ((0,([]:List (List O))),1)) (cond (x1.length !=x0.1) (Q ((0,([]:List (List O))),2)) (Lp (σ:=Int) (λy3 R3=>let v0:=x1.getD y3.toNat 0;let v1:=List.take y3.toNat x1;cond (decide (y3<x1.length)) ((0≤y3∧y3<x1.length)∧((! decide (v0<0))=true→(! decide (v0<0))=true∧True)∧((! decide (v0<0))=true→(! decide (v0<0))=true∧(! decide (v0<0))=true∧True)∧(decide (v0<0)=false→(! decide (v0<0))=true)∧cond (decide (v0<0)||decide (x0.1≤v0)) (Q ((0,([]:List (List O))),6)) ((0≤y3∧y3≤x1.length)∧Lp (σ:=Int) (λy5 R5=>cond (decide (y5<v1.length)) ((0≤y5∧y5<v1.length)∧cond (v0==v1.getD y5.toNat 0) (Q ((0,([]:List (List O))),6)) (AB .i64 (y5+1)∧R5 (y5+1))) (AB .i64 (y3+1)∧R3 (y3+1))) 0)) (Lp (σ:=Int×Int×List (List O)) (λy5 R5=>let v3:=x0.2.getD y5.1.toNat ([]:List O);cond (decide (y5.1<x0.2.length)) ((0≤y5.1∧y5.1<x0.2.length)∧Lp (σ:=Int×List O) (λy7 R7=>let v7:=v3.getD y7.1.toNat U;cond (decide (y7.1<v3.length)) ((0≤y7.1∧y7.1<v3.length)∧(0≤(x1.length:Int)∧x1.length≤(x1.length:Int)∧x1.length*((8:Nat):Int)≤140737488355328∧(x1.length:Int)≤9223372036854775807)∧Lp (σ:=Int×List Int) (λy9 R9=>let v6:=x1.getD y9.1.toNat 0;let v10:=[(v7.1,(v7.2.1,(y9.2,v7.2.2.2)))];cond (decide (y9.1<x1.length)) ((0≤y9.1∧y9.1<x1.length)∧(0≤v6∧v6<v7.2.2.1.length)∧(0≤y9.1∧y9.1<y9.2.length)∧Int.toNat y9.1<y9.2.length∧AB .i64 (y9.1+1)∧R9 ( y9.1+1,List.set y9.2 y9.1.toNat (v7.2.2.1.getD v6.toNat 0))) (((y7.2.length+v10.length)*48≤140737488355328∧y7.2.length+v10.length≤9223372036854775807)∧AB .i64 (y7.1+1)∧R7 ( y7.1+1,y7.2++v10))) (0,.replicate (Int.toNat x1.length) 0)) (((y5.2.2.length+List.length [y7.2])*24≤140737488355328∧y5.2.2.length+List.length [y7.2]≤9223372036854775807)∧AB .i64 (y5.1+1)∧R5 ( y5.1+1,(y5.2.1,y5.2.2++[y7.2])))) (0,([]:List O))) (Q (y5.2,0))) (0,(x0.1,([]:List (List O)))))) 0))
def law04_SetTurns.wp(x0:Int×List (List O))(x1:Int)(x2:Int)(x3:List Int)(Q:Bool→Prop):Prop:=let v0:=BK.fn (402,(98,([x0],())));let v1:=GA.fn (x0,(x1,(x2,())));let v2:=F8.fn (x0,(x1,(x2,())));let v3:=Cm.fn (v1.1,(v1.2,(v2.1,(v2.2,()))));let v4:=GB.fn (x0,(x3,()));let v5:=F9.fn (x0,(x3,()));let v6:=Cm.fn (v4.1,(v4.2,(v5.1,(v5.2,()))));((! !v0)=true→(! !v0)=true∧True)∧((! !v0)=true→(! !v0)=true∧True)∧((!v0)=false→(! !v0)=true)∧cond ( !v0||decide (1000<(x3.length:Int))) (Q (Ak.fn ())) ((v3=true→v3=true∧v3=true∧v3=true∧v3=true∧True)∧(v3=true→v3=true)∧((v3&&v6)=true→(v3&&v6)=true)∧Q ( v3&&v6&&Ak.fn ()))
theorem F5.spec(l:AT)(i k:Int)(hl:l.1.length≤9223372036854775807):F5.wp l i k λr=>r=F5.fn (l,i,k,()):=by have hfn:F5.fn (l,i,k,())=I5 l i k:=rfl;simp only[F5.wp,hfn,DF.fn];unfold I5;cases hv:BI l with|false=>simp|true=>
 have DK:l.1.length≤12:=by have :=hv;simp only[BI,zN,ZAC]at this;omega
 simp only[zU,yN];by_cases h:i<0∨(l.1.length:Int)<i∨k<0
 ·have e:( decide (i<(0:Int))||decide (((List.length l.1:Nat):Int)<i)||decide (k<(0:Int)))=true:=by simp;omega
  rw[e];simp[h]
 ·have e:( decide (i<(0:Int))||decide (((List.length l.1:Nat):Int)<i)||decide (k<(0:Int)))=false:=by simp;omega
  have e1:decide (i<(0:Int))=false:=by simp;omega
  have e2:decide (((List.length l.1:Nat):Int)<i)=false:=by simp;omega
  rw[e,e1,e2];simp only[ZAu,ZBm,ZBq,ZCB,ZDD,ZBG,yN,yP h];refine⟨⟨by omega,by omega⟩,?_⟩;by_cases h2:12-(l.1.length:Int)<k;·simp[h2]
  ·simp only[yV h2,yN,yP h2,ZAD];refine⟨by omega,⟨by omega,ZAr _,by omega,by omega⟩,⟨by omega,by omega,by omega⟩,?_⟩;simp[VQ]
theorem F7.spec(l:AT)(i k:Int)(hl:l.1.length≤9223372036854775807):F7.wp l i k λr=>r=F7.fn (l,i,k,()):=by have hfn:F7.fn (l,i,k,())=I5 l i k:=rfl;simp only[F7.wp,hfn,Em.fn];unfold I5;cases hv:BI l with|false=>simp|true=>
 have DK:l.1.length≤12:=by have :=hv;simp only[BI,zN,ZAC]at this;omega
 simp only[zU,yN];by_cases h:i<0∨(l.1.length:Int)<i∨k<0
 ·have e:( decide (i<(0:Int))||decide (((List.length l.1:Nat):Int)<i)||decide (k<(0:Int)))=true:=by simp;omega
  rw[e];simp[h]
 ·have e:( decide (i<(0:Int))||decide (((List.length l.1:Nat):Int)<i)||decide (k<(0:Int)))=false:=by simp;omega
  have e1:decide (i<(0:Int))=false:=by simp;omega
  have e2:decide (((List.length l.1:Nat):Int)<i)=false:=by simp;omega
  rw[e,e1,e2];simp only[ZAu,ZBm,ZBq,ZCB,ZDD,ZBG,yN,yP h];refine⟨⟨by omega,by omega⟩,?_⟩;by_cases h2:12-(l.1.length:Int)<k;·simp[h2]
  ·have l1:(List.take i.toNat l.1).length≤l.1.length:=by rw[zG];omega
   have l2:(List.drop i.toNat l.1).length≤l.1.length:=by rw[ZAF];omega
   simp only[yV h2,yN,yP h2,yU,ZAD];refine⟨⟨by omega,by omega⟩,⟨by omega,by omega⟩,⟨by omega,by omega,by omega⟩,⟨by omega,by omega⟩,⟨by omega,by omega⟩,?_⟩;simp[VQ]
theorem ET.spec(l:AT)(i k:Int)(hp:ET.pre (l,i,k,())):ET.wp l i k λr=>r=ET.fn (l,i,k,()):=rfl
theorem Dj.spec(s:AG)(n:Int)(f:(AT→Prop)×(AT→AT))(hp:Dj.pre (s,n,f,())):Dj.wp s n f λr=>r=Dj.fn (s,n,f,()):=by
 obtain⟨h1,h2⟩:=hp;simp only at h1 h2;simp only[Dj.wp,Dj.fn];refine⟨⟨by omega,ZAr _,by omega,by omega⟩,?_⟩;simp only[yQ];let F:List O→List O:=λp=>p.map λc=>(c.1,c.2.1,f.2 c.2.2);refine Lp.iter s.2.length (λi z=>z=((i:Int),(s.2.take i).map F,s.2.length-i)) (by simp) ?_;rintro i z hle rfl R hR;by_cases e:i<s.2.length
 ·simp only[yO (show(i:Int)<(s.2.length:Int)by omega),yQ,yR];obtain⟨Y5,oP⟩:=h2 _ (AX (d:=[]) e);refine⟨⟨by omega,by omega⟩,by omega,?_⟩;refine Lp.iter (s.2.getD i []).length (λj z=>z=((j:Int),((s.2.take i).map F,s.2.length-i-1),F ((s.2.getD i []).take j))) (by simp[F]) ?_;rintro j z hj rfl R2 A8;have nZ:((s.2.take i).map F).length=i:=by simp;omega
  by_cases e2:j<(s.2.getD i []).length
  ·simp only[yO (show(j:Int)<((s.2.getD i []).length:Int)by omega),yQ,yR,nZ];have hF:(F ((s.2.getD i []).take j)).length=j:=by show(List.map _ _).length=j;rw[zL,zG];omega
   refine⟨⟨by omega,by omega⟩,⟨by omega,by omega⟩,trivial,oP _ (AX e2),⟨by rw[hF];simp;omega,by rw[hF];simp;omega⟩,⟨by omega,by omega⟩,trivial,⟨by omega,by omega⟩,A8 e2 _ ?_⟩;rw[BN U e2];simp[F]
  ·have :j=(s.2.getD i []).length:=by omega
   subst this;simp only[yY,yZ,yN,zA];refine⟨⟨by omega,by omega⟩,hR e _ ?_⟩;rw[BN [] e,ZAa];simp;omega
 ·have :i=s.2.length:=by omega
  subst this;simp only[yY,yZ,yN,zA,ZBT,ZBs,ZAT];rfl
theorem GA.spec(s:AG)(i k:Int):GA.wp s i k λr=>r=GA.fn (s,i,k,()):=by have hfn:GA.fn (s,i,k,())=LB s i k:=rfl;simp only[GA.wp,hfn,Bf.fn];unfold LB;cases hv:AD s with|false=>simp|true=>
 obtain⟨b1,b2,b3,_⟩:=AD.b hv;simp only[zU,yN];by_cases h:i<0∨s.1<i∨k<0
 ·have e:( decide (i<(0:Int))||decide (s.1<i)||decide (k<(0:Int)))=true:=by simp;omega
  rw[e];simp[h]
 ·have e:( decide (i<(0:Int))||decide (s.1<i)||decide (k<(0:Int)))=false:=by simp;omega
  have e1:decide (i<(0:Int))=false:=by simp;omega
  have e2:decide (s.1<i)=false:=by simp;omega
  rw[e,e1,e2];simp only[ZAu,ZBm,ZBq,ZCB,ZDD,ZBG,yN,yP h];refine⟨⟨by omega,by omega⟩,?_⟩;by_cases h2:12-s.1<k;·simp[h2]
  ·simp only[yV h2,yN,yP h2];exact⟨⟨by omega,by omega⟩,⟨b3,λp hp=>⟨(AD.piece hv hp).1,λc _=>trivial⟩⟩,rfl⟩
theorem F8.spec(s:AG)(i k:Int):F8.wp s i k λr=>r=F8.fn (s,i,k,()):=by have hfn:F8.fn (s,i,k,())=LB s i k:=rfl;simp only[F8.wp,hfn,Bl.fn];unfold LB;cases hv:AD s with|false=>simp|true=>
 obtain⟨b1,b2,b3,_⟩:=AD.b hv;simp only[zU,yN];by_cases h:i<0∨s.1<i∨k<0
 ·have e:( decide (i<(0:Int))||decide (s.1<i)||decide (k<(0:Int)))=true:=by simp;omega
  rw[e];simp[h]
 ·have e:( decide (i<(0:Int))||decide (s.1<i)||decide (k<(0:Int)))=false:=by simp;omega
  have e1:decide (i<(0:Int))=false:=by simp;omega
  have e2:decide (s.1<i)=false:=by simp;omega
  rw[e,e1,e2];simp only[ZAu,ZBm,ZBq,ZCB,ZDD,ZBG,yN,yP h];refine⟨⟨by omega,by omega⟩,?_⟩;by_cases h2:12-s.1<k;·simp[h2]
  ·simp only[yV h2,yN,yP h2];refine⟨⟨by omega,by omega⟩,?_⟩;let F:List O→List O:=λp=>p.map λc=>(c.1,c.2.1,(I5 c.2.2 i k).1);refine Lp.iter s.2.length (λa z=>z=((a:Int),s.1+k,(s.2.take a).map F)) (by simp) ?_;rintro a z hle rfl R hR;by_cases e:a<s.2.length
   ·simp only[yO (show(a:Int)<(s.2.length:Int)by omega),yQ,yR];have Y5:=(AD.piece hv (AX (d:=[]) e)).1;refine⟨⟨by omega,by omega⟩,?_⟩;refine Lp.iter (s.2.getD a []).length (λj z=>z=((j:Int),F ((s.2.getD a []).take j))) (by simp[F]) ?_;rintro j z hj rfl R2 A8;by_cases e2:j<(s.2.getD a []).length
    ·simp only[yO (show(j:Int)<((s.2.getD a []).length:Int)by omega),yQ,yR];have hF:(F ((s.2.getD a []).take j)).length=j:=by show(List.map _ _).length=j;rw[zL,zG];omega
     refine⟨⟨by omega,by omega⟩,⟨by rw[hF];simp;omega,by rw[hF];simp;omega⟩,⟨by omega,by omega⟩,A8 e2 _ ?_⟩;rw[BN U e2];simp[F]
    ·have :j=(s.2.getD a []).length:=by omega
     subst this;simp only[yY,yZ,yN,zA];refine⟨⟨by simp;omega,by simp;omega⟩,⟨by omega,by omega⟩,hR e _ ?_⟩;rw[BN [] e,ZAa];rfl
   ·have :a=s.2.length:=by omega
    subst this;simp only[yY,yZ,yN,zA];rfl
theorem dP{α β:Type}{l:List α}{g:α→β}{d:α}{z:β}{j:Nat}(h:j<l.length):((l.take j).map g++List.replicate (l.length-j) z).set j (g (l.getD j d))=(l.take (j+1)).map g++List.replicate (l.length-(j+1)) z:=by
 have hl:((l.take j).map g).length=j:=by rw[zL,zG];omega
 rw[ZBh _ _ (by omega),hl,ZBT,show l.length-j=l.length-(j+1)+1 by omega,ZBY,ZCN,BN d h,ZAa,ZAO];rfl
theorem dQ{α β:Type}{l:List α}{g:α→β}{z:β}{j:Nat}(h:j≤l.length):((l.take j).map g++List.replicate (l.length-j) z).length=l.length:=by rw[yU,zL,zG,ZAD];omega
theorem Di.spec(x:AT)(l:List Int)(hp:Di.pre (x,l,())):Di.wp x l λr=>r=Di.fn (x,l,()):=by
 obtain⟨h1,h2,h3⟩:=hp;simp only at h1 h2 h3;simp only[Di.wp,Di.fn];refine⟨⟨by omega,ZAr _,by omega,by omega⟩,?_⟩;simp only[yQ,←h2];refine Lp.iter l.length (λj z=>z=((j:Int),(l.take j).map (λv=>x.1.getD v.toNat 0)++List.replicate (l.length-j) 0)) (by simp) ?_;rintro j z hj rfl R hR;have Ir:=dQ (g:=λv:Int=>x.1.getD v.toNat 0) (z:=0) hj;by_cases e:j<l.length;·have hm:=h3 _ (AX (d:=0) e);simp only[yO (show(j:Int)<(l.length:Int)by omega),yQ,yR,Ir];refine⟨⟨by omega,by omega⟩,⟨hm.1,by omega⟩,⟨by omega,by omega⟩,e,⟨by omega,by omega⟩,hR e _ ?_⟩;rw[dP (g:=λv:Int=>x.1.getD v.toNat 0) e];rfl
 ·have :j=l.length:=by omega
  subst this;simp only[yY,yZ,yN,zA,ZBT,ZBs,ZAT];rfl
theorem Qm{n:Int}{l:List Int}:Ga n l=true↔(∀v∈l,0≤v∧v<n)∧l.Nodup:=by unfold Ga;rw[zN,ZAC,ZAC]
theorem sQ{n:Int}{l:List Int}{i:Nat}(h:Ga n l=true):Ga n (l.take i)=true:=by rw[Qm]at h⊢;exact⟨λv hv=>h.1 v (zZ hv),h.2.sublist (List.take_sublist _ _)⟩
theorem U3{n:Int}{l:List Int}{i:Nat}(h:Ga n (l.take i)=true)(e:i<l.length):Ga n (l.take (i+1))=true↔(0≤l.getD i 0∧l.getD i 0<n)∧l.getD i 0∉l.take i:=by
 rw[Qm]at h⊢;rw[BN 0 e,List.nodup_append];constructor;·rintro⟨h1,_,_,h2⟩;exact⟨h1 _ (by simp),λhm=>h2 _ hm _ (by simp) rfl⟩
 ·rintro⟨h1,h2⟩;refine⟨λv hv=>?_,h.2,by simp,λa ha b hb=>?_⟩
  ·rcases List.mem_append.1 hv with hv|hv;·exact h.1 v hv
   ·rw[List.mem_singleton.1 hv];exact h1
  ·rw[List.mem_singleton.1 hb];rintro rfl;exact h2 ha
theorem Ql{n:Int}{l:List Int}{i:Nat}(h:Ga n (l.take i)=true)(e:i<l.length)(hb:¬((0≤l.getD i 0∧l.getD i 0<n)∧l.getD i 0∉l.take i)):Ga n l=false:=by cases hp:Ga n l with|false=>rfl|true=>exact absurd ((U3 h e).1 (sQ hp)) hb
theorem dO{s:AG}{l:List Int}(hv:AD s=true)(hn:(l.length:Int)=s.1)(hp:Ga s.1 l=true):Gy s l=(PZ s s.1 (Oo l),0):=by unfold Gy;rw[yP (by rw[hv];decide),yP (by omega),yP (by rw[hp];decide)]
theorem RD{s:AG}{l:List Int}(hv:AD s=true)(hn:(l.length:Int)=s.1)(hp:Ga s.1 l=false):Gy s l=((0,[]),6):=by unfold Gy;rw[yP (by rw[hv];decide),yP (by omega),yS hp]
theorem GB.spec(s:AG)(l:List Int)(hl:l.length≤9223372036854775807):GB.wp s l λr=>r=GB.fn (s,l,()):=by have hfn:GB.fn (s,l,())=Gy s l:=rfl;simp only[GB.wp,hfn,Bf.fn];cases hv:AD s with|false=>simp[Gy,hv]|true=>
 obtain⟨b1,b2,b3,_⟩:=AD.b hv;simp only[zU,yN];by_cases hn:(l.length:Int)=s.1
 ·rw[show(((List.length l:Nat):Int)!=s.1)=false by rw[hn];simp];simp only[yN];refine Lp.iter l.length (λi z=>z.1=(i:Int)∧z.2.length=12∧(∀j:Nat,z.2.getD j false=decide ((j:Int)∈l.take i))∧Ga s.1 (l.take i)=true) ⟨rfl,rfl,λj=>?_,rfl⟩ ?_;·rw[yT,ZDH];split<;>simp
  rintro i⟨z1,on⟩hle⟨rfl,ho,Nv,hperm⟩R hR;have ho:on.length=12:=ho;by_cases e:i<l.length
  ·simp only[yO (show(i:Int)<(l.length:Int)by omega),yQ,yR];refine⟨⟨by omega,by omega⟩,λh=>⟨h,trivial⟩,λh=>⟨h,h,trivial⟩,λh=>by rw[h];rfl,?_⟩;by_cases hr:0≤l.getD i 0∧l.getD i 0<s.1
   ·have e1:decide (l.getD i 0<0)=false:=by simp only[ZAU];omega
    have e2:decide (s.1≤l.getD i 0)=false:=by simp only[ZAU];omega
    simp only[e1,e2,ZBm,ZBC,ho];have hc:(((l.getD i 0).toNat:Nat):Int)=l.getD i 0:=by omega
    have QE:=Nv (l.getD i 0).toNat;rw[hc]at QE;refine⟨λh=>⟨h,by omega,by omega⟩,λh=>⟨h,by omega⟩,λ_=>rfl,?_⟩;have QE:on.getD (l.getD i 0).toNat false=decide (l.getD i 0∈l.take i):=QE;rw[QE];by_cases hm:l.getD i 0∈l.take i;·rw[yO hm];exact(RD hv hn (Ql hperm e λh=>h.2 hm)).symm
    ·rw[yV hm];simp only[yN];refine⟨⟨by omega,by omega⟩,by omega,⟨by omega,by omega⟩,hR e _ ⟨rfl,by rw[ZCI];exact ho,λj=>?_,(U3 hperm e).2 ⟨hr,hm⟩⟩⟩;show(on.set (l.getD i 0).toNat true).getD j false=_;rw[yT,ZC3,BN 0 e];split
     ·rename_i ej;rw[yS (by omega)];have :(j:Int)=l.getD i 0:=by omega
      simp[this]
     ·rename_i ej;have Ab:¬(j:Int)=l.getD i 0:=by omega
      have :=Nv j;rw[yT]at this;rw[this];simp only[zM,zC,Ab,ZCY]
   ·have e3:(decide (l.getD i 0<0)||decide (s.1≤l.getD i 0))=true:=by simp only[ZBw,ZAC];omega
    simp only[e3,zU,ZBd];refine⟨λh=>(by cases h),λh=>(by cases h),λh=>(by cases h),?_⟩;exact(RD hv hn (Ql hperm e λh=>hr h.1)).symm
  ·have :i=l.length:=by omega
   subst this;rw[zA]at hperm;simp only[yY,yZ,yN];refine⟨⟨b3,λp hp=>⟨(AD.piece hv hp).1,λc hc=>?_⟩⟩,(dO hv hn hperm).symm⟩;have hd:=(AD.D hv hp).2 c hc;refine⟨by show c.2.2.1.length≤12;omega,by show l.length=c.2.2.1.length;omega,λv hv'=>?_⟩;have :=(Qm.1 hperm).1 v hv';exact⟨this.1,by show v<(c.2.2.1.length:Int);omega⟩
 ·rw[bne_iff_ne.2 hn];simp[Gy,hv,hn]
theorem F9.spec(s:AG)(l:List Int)(hl:l.length≤9223372036854775807):F9.wp s l λr=>r=F9.fn (s,l,()):=by have hfn:F9.fn (s,l,())=Gy s l:=rfl;simp only[F9.wp,hfn,Bl.fn];cases hv:AD s with|false=>simp[Gy,hv]|true=>
 obtain⟨b1,b2,b3,_⟩:=AD.b hv;simp only[zU,yN];by_cases hn:(l.length:Int)=s.1
 ·rw[show(((List.length l:Nat):Int)!=s.1)=false by rw[hn];simp];simp only[yN];refine Lp.iter l.length (λi z=>z=(i:Int)∧Ga s.1 (l.take i)=true) ⟨rfl,rfl⟩ ?_;rintro i z hle⟨rfl,hperm⟩R hR;by_cases e:i<l.length
  ·simp only[yO (show(i:Int)<(l.length:Int)by omega),yQ,yR];refine⟨⟨by omega,by omega⟩,λh=>⟨h,trivial⟩,λh=>⟨h,h,trivial⟩,λh=>by rw[h];rfl,?_⟩;by_cases hr:0≤l.getD i 0∧l.getD i 0<s.1
   ·have e1:decide (l.getD i 0<0)=false:=by simp only[ZAU];omega
    have e2:decide (s.1≤l.getD i 0)=false:=by simp only[ZAU];omega
    simp only[e1,e2,ZBm,yN];have AY:(l.take i).length=i:=by rw[zG];omega
    refine⟨⟨by omega,by omega⟩,?_⟩;simp only[AY];refine Lp.iter i (λj z=>z=(j:Int)∧l.getD i 0∉(l.take i).take j) ⟨rfl,by simp⟩ ?_;rintro j z hj⟨rfl,hm⟩R2 A8;by_cases e3:j<i
    ·simp only[yO (show(j:Int)<(i:Int)by omega),yQ,yR];refine⟨⟨by omega,by omega⟩,?_⟩;by_cases eq:l.getD i 0=(l.take i).getD j 0;·rw[beq_iff_eq.2 eq];refine(RD hv hn (Ql hperm e λh=>h.2 ?_)).symm;rw[eq];exact AX (by omega)
     ·rw[beq_eq_false_iff_ne.2 eq];simp only[yN];refine⟨⟨by omega,by omega⟩,A8 e3 _ ⟨rfl,?_⟩⟩;rw[BN 0 (by omega)];simp only[zM,zC,eq,ZCY];exact hm
    ·have :j=i:=by omega
     subst this;simp only[yY,yZ,yN];rw[ZDV,Nat.min_self]at hm;exact⟨⟨by omega,by omega⟩,hR e _ ⟨rfl,(U3 hperm e).2 ⟨hr,hm⟩⟩⟩
   ·have e3:(decide (l.getD i 0<0)||decide (s.1≤l.getD i 0))=true:=by simp only[ZBw,ZAC];omega
    simp only[e3,yR];exact(RD hv hn (Ql hperm e λh=>hr h.1)).symm
  ·have :i=l.length:=by omega
   subst this;rw[zA]at hperm;simp only[yY,yZ,yN];let F:List O→List O:=λp=>p.map λc=>(c.1,c.2.1,Oo l c.2.2);refine Lp.iter s.2.length (λa z=>z=((a:Int),s.1,(s.2.take a).map F)) (by simp) ?_;rintro a z hle rfl R hR;by_cases e:a<s.2.length
   ·simp only[yO (show(a:Int)<(s.2.length:Int)by omega),yQ,yR];have Y5:=(AD.piece hv (AX (d:=[]) e)).1;have oQ:=(AD.D hv (AX (d:=[]) e)).2;refine⟨⟨by omega,by omega⟩,?_⟩;refine Lp.iter (s.2.getD a []).length (λj z=>z=((j:Int),F ((s.2.getD a []).take j))) (by simp[F]) ?_;rintro j z hj rfl R2 A8;by_cases e2:j<(s.2.getD a []).length
    ·simp only[yO (show(j:Int)<((s.2.getD a []).length:Int)by omega),yQ,yR];have hd:=oQ _ (AX (d:=U) e2);refine⟨⟨by omega,by omega⟩,⟨by omega,ZAr _,by omega,by omega⟩,?_⟩;refine Lp.iter l.length (λb z=>z=((b:Int),(l.take b).map (λv=>(((s.2.getD a []).getD j U).2.2.1).getD v.toNat 0)++List.replicate (l.length-b) 0)) (by simp) ?_;rintro b z hb rfl R3 Ln;have Ir:=dQ (g:=λv:Int=>(((s.2.getD a []).getD j U).2.2.1).getD v.toNat 0) (z:=0) hb;by_cases e3:b<l.length;·have hm:=(Qm.1 hperm).1 _ (AX (d:=0) e3);simp only[yO (show(b:Int)<(l.length:Int)by omega),yQ,yR,Ir];refine⟨⟨by omega,by omega⟩,⟨hm.1,by omega⟩,⟨by omega,by omega⟩,e3,⟨by omega,by omega⟩,Ln e3 _ ?_⟩;rw[dP (g:=λv:Int=>(((s.2.getD a []).getD j U).2.2.1).getD v.toNat 0) e3];rfl
     ·have :b=l.length:=by omega
      subst this;simp only[yY,yZ,yN,zA,ZBT,ZBs,ZAT];have hF:(F ((s.2.getD a []).take j)).length=j:=by show(List.map _ _).length=j;rw[zL,zG];omega
      refine⟨⟨by rw[hF];simp;omega,by rw[hF];simp;omega⟩,⟨by omega,by omega⟩,A8 e2 _ ?_⟩;rw[BN U e2];simp[F,Oo]
    ·have :j=(s.2.getD a []).length:=by omega
     subst this;simp only[yY,yZ,yN,zA];refine⟨⟨by simp;omega,by simp;omega⟩,⟨by omega,by omega⟩,hR e _ ?_⟩;rw[BN [] e,ZAa];rfl
   ·have :a=s.2.length:=by omega
    subst this;simp only[yY,yZ,yN,zA];exact(dO hv hn hperm).symm
 ·rw[bne_iff_ne.2 hn];simp[Gy,hv,hn]
theorem law04_SetTurns.spec(s:AG)(i k:Int)(l:List Int):law04_SetTurns.wp s i k l λr=>r=true:=by unfold law04_SetTurns.wp;intro v0 v1 v2 v3 v4 v5 v6;have ea:Ak.fn ()=true:=rfl;have e3:v3=true:=Kp (LB s i k);have e6:v6=true:=Kp (Gy s l);rw[e3,e6];refine⟨λh=>⟨h,trivial⟩,λh=>⟨h,trivial⟩,λh=>by rw[h];rfl,?_⟩;cases !v0||decide ((1000:Int)<((List.length l:Nat):Int))with|true=>exact ea|false=>exact⟨λh=>⟨h,h,h,h,trivial⟩,λh=>h,λh=>h,ea⟩
end Go.Proofs.YtldikbpclaeajaaGreatDoor
namespace Go.Proofs.YtldikbpclaeajaaGreatDoor
open Go Go.ChangeAt Go.ChangeShapes Go.RowKit Go.WideShapes
set_option linter.unusedSimpArgs false
set_option linter.unusedVariables false
section
def Wf:(T:Ty)→T.den→Prop|.int k,n=>(Lit.int k n).wf=true|.bool,_=>True|.str,s=>ByteArray.size s≤maxLen|.sl T,l=>List.length (α:=T.den) l≤maxLen∧∀x∈(l:List T.den),Wf T x|.pair a b,x=>Wf a x.1∧Wf b x.2|.unit,_=>True
def LJ(P:Program)(F:TypeId→Ty→Prop):Nat→List Field→Ty→Prop|o,[f],T=>f.offset=o∧P.cellsOf f.type=T.size∧F f.type T|o,f::fs,.pair A B=>f.offset=o∧P.cellsOf f.type=A.size∧F f.type A∧LJ P F (o+A.size) fs B|_,_,_=>False
def FitT(P:Program):Nat→TypeId→Ty→Prop|0,_,_=>False|n+1,t,T=>(match T with|.int k=>P.underlying t=some (.int k)|.bool=>P.underlying t=some .bool|.str=>P.underlying t=some .string|.sl T=>∃e,P.underlying t=some (.slice e)∧P.cellsOf e=T.size∧0<T.size∧FitT P n e T|_=>False)∨∃fs,P.underlying t=some (.struct fs)∧P.cellsOf t=T.size∧LJ P (FitT P n) 0 fs.toList T
section
variable {H : Type} {enc : TypeId × Value → H} {P : Program} {W : World} {held : Bool}
abbrev FG(W:World):Nat→Prop:=λb=>b<W.heap.size
theorem Zx{α:Type}{p:Nat→α→Prop}:∀n:Nat,(∀i,i<n→∃y,p i y)→∃l:List α,l.length=n∧∀i y,l[i]?=some y→p i y
 |0,_=>⟨[],rfl,λi y h=>by simp at h⟩|n+1,h=>by
  obtain⟨l,hl,hp⟩:=Zx n λi hi=>h i (by omega);obtain⟨y,hy⟩:=h n (by omega);refine⟨l++[y],by simp[hl],λi z hz=>?_⟩;by_cases e:i<l.length;·rw[ZAV e]at hz;exact hp i z hz
  ·rw[ZAS (by omega)]at hz;have :i=l.length:=by have :=(List.getElem?_eq_some_iff.1 hz).1;simp at this;omega
   subst this;simp at hz;subst hz;rw[hl];exact hy
theorem aU{F:TypeId→Ty→Prop}{m:Nat}(hF:∀t T,F t T→∀cs x,DataW.trod enc P W 0 (λ_=>true) held m t cs=some x→∃y:T.den,BE W (FG W) T y cs∧Wf T y):∀{fs:List Field}{o:Nat}{T:Ty}{cs:List Value},LJ P F o fs T→(∀f∈fs,∃x,DataW.trod enc P W 0 (λ_=>true) held m f.type ((cs.drop f.offset).take (P.cellsOf f.type))=some x)→cs.length=o+T.size→∃y:T.den,BE W (FG W) T y (cs.drop o)∧Wf T y
 |[],o,T,cs,h,_,_=>by unfold LJ at h;exact h.elim|[f],o,T,cs,h,hx,hl=>by
  have h':f.offset=o∧P.cellsOf f.type=T.size∧F f.type T:=by unfold LJ at h;exact h
  obtain⟨h1,h2,h3⟩:=h';obtain⟨x,hx⟩:=hx f (by simp);rw[h1,h2,ZA3 (by rw[ZAF];omega)]at hx;exact hF _ _ h3 _ _ hx|f::g::fs,o,T,cs,h,hx,hl=>by
  cases T<;>unfold LJ at h<;>try exact h.elim
  rename_i A B;obtain⟨h1,h2,h3,h4⟩:=h;have hl':cs.length=o+A.size+B.size:=by rw[hl];simp only[Ty.size];omega
  obtain⟨b,hb,pV⟩:=aU hF (cs:=cs) h4 (λf hf=>hx f (by simp[List.mem_cons.1 hf])) hl';obtain⟨x,hx⟩:=hx f (by simp);rw[h1,h2]at hx;obtain⟨a,ha,pU⟩:=hF _ _ h3 _ _ hx;refine⟨(a,b),⟨_,_,?_,ha,hb⟩,pU,pV⟩;rw[←ZDT,ZAx]
theorem Wd{base:Nat}{a:Addr}{n:Nat}{cs:List Value}(h:W.cells? base a n=some cs)(hn:0<n):a.spot=none∧a.block<W.heap.size∧cs.length=n∧∀j u,cs[j]?=some u→W.cell? ⟨a.block,a.off+j,none⟩=some u:=by
 obtain⟨_,hl,hc⟩:=World.cells?_some h;have h0:=hc 0 hn;rw[zK (by omega:0<cs.length)]at h0;simp only[Addr.add,ZA4,World.cell?]at h0;have hs:a.spot=none∧a.block<W.heap.size:=by
  split at h0
  ·rename_i hb;refine⟨?_,(Array.getElem?_eq_some_iff.1 hb).1⟩;split at h0;·cases h0
   ·rename_i hs;simpa using hs
  ·cases h0
 refine⟨hs.1,hs.2,hl,λj u hj=>?_⟩;have Gt:j<n:=by rw[←hl];exact(List.getElem?_eq_some_iff.1 hj).1
 rw[←hj,←hc j Gt];obtain⟨b,off,sp⟩:=a;simp only at hs;rw[hs.1];unfold Addr.add;split;·rename_i e;subst e;rfl
 ·rfl
theorem Qe:∀(n:Nat){t:TypeId}{T:Ty},FitT P n t T→∀(fuel:Nat)(cs:List Value)(x:DataW H×List MemPlace),DataW.trod enc P W 0 (λ_=>true) held fuel t cs=some x→∃y:T.den,BE W (FG W) T y cs∧Wf T y
  |0,_,_,h,_,_,_,_=>h.elim|n+1,t,T,h,fuel,cs,x,hx=>by
    unfold FitT at h;rcases h with h|⟨fs,h1,h2,h3⟩;·cases T with
      |int k=>obtain⟨z,rfl,_,hw⟩:=DataW.trod_int h hx;exact⟨z,rfl,hw⟩|bool=>obtain⟨z,rfl,_⟩:=DataW.trod_bool h hx;exact⟨z,rfl,trivial⟩|str=>obtain⟨z,rfl,_,hw⟩:=DataW.trod_string h hx;exact⟨z,rfl,hw⟩|sl T=>
        obtain⟨e,h1,h2,h3,h4⟩:=h;rcases DataW.trod_slice h1 hx with⟨rfl,_⟩|⟨a,len,cap,elems,rest,m,_,rfl,_,_,hl,hm,hlen,Yh,_,_⟩;·exact⟨[],⟨none,0,rfl,⟨zB _,ZAl _⟩,λh=>absurd rfl h⟩,ZAl _,λx hx=>by cases hx⟩
        · have each:∀i,i<len→∃y:T.den,(a.block<W.heap.size∧(len≠0→a.spot=none)∧∃cs',BE W (FG W) T y cs'∧∀j u,cs'[j]?=some u→W.cell? ⟨a.block,a.off+i*T.size+j,none⟩=some u)∧Wf T y:=by
            intro i hi;have h5:=Yh i hi;rw[zK (by omega:i<elems.length),ZAB]at h5;obtain⟨cs',h6,h7⟩:=h5;rw[h2]at h6;obtain⟨y,hy,hw⟩:=Qe n h4 _ _ _ h7;obtain⟨k1,k2,k3,k4⟩:=Wd h6 h3;have hb:(a.add (i*T.size)).block=a.block:=by unfold Addr.add;split<;>rfl
            have ho:(a.add (i*T.size)).off=a.off+i*T.size:=by
              unfold Addr.add;split;·rename_i e;rw[e];rfl
              ·rfl
            rw[hb,ho]at k4;rw[hb]at k2;refine⟨y,⟨k2,λ_=>?_,cs',hy,k4⟩,hw⟩;have YF:=Yh 0 (by omega);rw[zK (by omega:0<elems.length),ZAB]at YF;obtain⟨cs0,YG,_⟩:=YF;rw[h2]at YG;have :=(Wd YG h3).1;simpa[Addr.add]using this
          obtain⟨l,Hp,Yt⟩:=Zx len each;refine⟨l,⟨some a,cap,by rw[Hp],⟨by rw[Hp];exact hl,hm⟩,λAb=>?_⟩,by show l.length≤maxLen;omega,λy hy=>?_⟩
          · have Ag:0<len:=by rw[←Hp];exact List.length_pos_iff.2 Ab
            obtain⟨y0,⟨hb,hs,_⟩,_⟩:=each 0 Ag;refine⟨a.block,a.off,?_,hb,λi x hi=>?_⟩;·have :=hs (by omega);obtain⟨b,off,sp⟩:=a;simp only at this;rw[this]
            ·obtain⟨⟨_,_,cs',h8,h9⟩,_⟩:=Yt i x hi;exact⟨cs',h8,h9⟩
          ·obtain⟨i,hi⟩:=ZBl hy;exact(Yt i y hi).2|pair a b=>exact h.elim|unit=>exact h.elim
    ·obtain⟨xs,m,rfl,_,h4,h5,h6⟩:=DataW.trod_struct h1 hx;have :=aU (m:=m) (λt T hF cs x hx=>Qe n hF m cs x hx) (cs:=cs) h3 (λf hf=>by
        obtain⟨i,hi⟩:=ZBl hf;have hi':fs[i]?=some f:=by simpa using hi
        have :=h6 i f hi';have AY:i<xs.length:=by rw[h5];exact(Array.getElem?_eq_some_iff.1 hi').1
        exact⟨xs[i],by rw[this,zK AY]⟩) (by rw[ZAJ,h4,h2]);simpa using this
def qW:Ty→Bool|.pair _ _=>false|_=>true
def GJ(W:World):AH:=⟨W,FG W,λ_=>none⟩
theorem one_slice{r:Reach}{base:Nat}{t e:TypeId}{v:Value}(ht:P.underlying t=some (.slice e))(h:Value.okWide P W r base t v):v.cells=#[v]:=by obtain⟨a,l,c,rfl⟩:=okWide_slice ht h;rfl
theorem one_int{r:Reach}{base:Nat}{t:TypeId}{k:IntKind}{v:Value}(ht:P.underlying t=some (.int k))(h:Value.okWide P W r base t v):v.cells=#[v]:=by obtain⟨a,rfl⟩:=okWide_int ht h;rfl
theorem arg_plain{n:Nat}{t:TypeId}{T:Ty}{v:Value}{d:DataW H}{p:List MemPlace}(hf:FitT P n t T)(hp:qW T=true)(h:DataW.Trod enc P W 0 (λ_=>true) held t v d p)(hv:v.cells=#[v]):∃y:T.den,Z P (GJ W) (Gj T y) v∧Wf T y:=by obtain⟨fuel,h⟩:=h;rw[hv]at h;obtain⟨y,hy,hw⟩:=Qe n hf _ _ _ h;refine⟨y,?_,hw⟩;cases T<;>first|exact .d hy|(cases hp;done)
theorem arg_agg{n:Nat}{t:TypeId}{a b:Ty}{v:Value}{d:DataW H}{p:List MemPlace}(hf:FitT P n t (.pair a b))(h:DataW.Trod enc P W 0 (λ_=>true) held t v d p){fs:Array Field}{r:Reach}{base:Nat}(ht:P.underlying t=some (.struct fs))(hk:Value.okWide P W r base t v):∃y:(Ty.pair a b).den,Z P (GJ W) (Gj (.pair a b) y) v∧Wf (.pair a b) y:=by
 obtain⟨cs,rfl,_⟩:=okWide_struct ht hk;obtain⟨fuel,h⟩:=h;obtain⟨y,hy,hw⟩:=Qe n hf _ _ _ h;have hr:=JK (P:=P) (E:=GJ W) hy;refine⟨y,.agg ?_ λj hj=>?_,hw⟩;·have :=hr.1;simpa[Value.cells]using this
 ·have :=hr.2 j hj;simpa[Value.cells,zH,yT]using this
theorem sok_of{g:Nat}(hg:P.globalNamed "internal/strconv.uint64pow10"=some g)(h:Lib.TabIs P W "internal/strconv.uint64pow10" .u64 Lib.pow10Tab):DW P W (FG W):=by
 refine⟨λb hb=>hb,g,?_,λw' hw'=>?_⟩
 ·unfold Lib.TabIs World.var? at h;rw[hg]at h;simp only[ZAv]at h;split at h;·rename_i hb;exact(Array.getElem?_eq_some_iff.1 hb).1
  ·cases h
 ·unfold Lib.TabIs World.var? at h⊢;rw[hg]at h⊢;simp only[ZAv]at h⊢;rw[hw'];exact h
theorem IW{τ:Ad}(hτ:A6 P τ){run:EG}(hrun:CM P run){A:An}{f:FuncId}{fi:FI}(hok:fi.Ok P f){ps:List PS}{xs:B9 ps}{C:Prop}(hw:C=Fu τ run A fi ps [.bool] xs λr=>r=true)(h:C)(hS:DW P W (FG W)){args:Array Value}(hr:AS P (GJ W) (CL ps xs) args.toList):Calls P f args W λe w'=>e=.returned (.bool true)∧Below W.heap.size W w':=by subst hw;refine(Xs hτ hrun hok h hS hr).mono ?_;rintro e w'⟨v,S2,r,rfl,hg,hv,rfl⟩;have hv':Z P ⟨w',S2,λ_=>none⟩ (.d .bool true) v:=hv;refine⟨?_,hg.os,hg.tape,hg.output,hg.size,λk hk=>hg.frame k hk⟩;cases hv' with|d h=>rw[(ZBi (show[v]=[Value.bool true]from h)).1]
end
end
end Go.Proofs.YtldikbpclaeajaaGreatDoor
