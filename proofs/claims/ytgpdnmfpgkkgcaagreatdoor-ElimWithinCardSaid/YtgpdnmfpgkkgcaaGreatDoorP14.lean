/- Part of a proof that a law of the program holds for every input: what the functions answer, in plain Lean. No conditions. -/
import Derived.Test.YtgpdnmfpgkkgcaaGreatDoorP13
namespace Go.Proofs.YtgpdnmfpgkkgcaaGreatDoor
open Go
set_option linter.defProp false
def ZID:=@Int.mul_nonneg
def ZIb:=@Bool.decide_or
def ZIo:=@Int.zero_mul
def ZJX:=@List.range_succ_eq_map
def ZJb:=@Bool.and_eq_false_iff
def ZJr:=@Bool.and_assoc
def ZJ4:=@Bool.eq_false_iff
def ZKk:=@bne_iff_ne
def ZLI:=@Int.one_mul
set_option linter.unusedSimpArgs false
set_option linter.unusedVariables false
def Cg(v:Nat)(p:List O)(i:Nat):Int:=(List.range i).foldl (JL v p) (-1)
theorem XD(v:Nat)(p:List O)(i:Nat):Cg v p (i+1)=JL v p (Cg v p i) i:=by unfold Cg;rw[ZIT,ZHC];rfl
theorem Oo(v:Nat)(p:List O):∀i,i≤p.length→Cg v p i=-1∧(∀j,j<i→Z v (p.getD j U)≠0→(p.getD j U).1≠1)∨0≤Cg v p i∧Cg v p i<(i:Int)∧Z v (p.getD (Cg v p i).toNat U)≠0∧(p.getD (Cg v p i).toNat U).1=1
 |0,_=>.inl ⟨rfl,λj hj=>absurd hj (by omega)⟩|i+1,hi=>by
  rw[XD];have ih:=Oo v p i (by omega);unfold JL;split;·rename_i h;exact .inr ⟨by omega,by omega,by simpa using h.1,by simpa using h.2.1⟩
  ·rename_i h;rcases ih with⟨h1,h2⟩|⟨h1,h2,h3⟩
   ·refine .inl ⟨h1,λj hj hc=>?_⟩;by_cases e:j=i;·subst e;exact λhk=>h ⟨hc,hk,.inl (by omega)⟩
    ·exact h2 j (by omega) hc
   ·exact .inr ⟨h1,by omega,h3⟩
theorem jH(v:Nat)(q:List O)(c:O):Ba v (q++[c])=Ba v q++if Z v c=0 then[GR v c]else[]:=by unfold Ba;rw[ZG9,ZGp];congr 1;by_cases h:Z v c=0<;>simp[h]
theorem gK(v:Nat)(q:List O)(c:O):Cc v (q++[c])=Cc v q++if Z v c≠0∧c.1=2 then[c]else[]:=by
 unfold Cc;rw[ZG9];congr 1;by_cases h:Z v c≠0∧c.1=2;·rw[ZGE h,ZHJ (by simpa using h)];rfl
 ·rw[ZGA h,ZHI (by simpa using h)];rfl
theorem pH(v:Nat)(q:List O)(c:O):Ak v (q++[c])=Ak v q++if Z v c≠0∧c.1≠1∧c.1≠2∧0<Z v c then[c]else[]:=by
 unfold Ak;rw[ZG9];congr 1;by_cases h:Z v c≠0∧c.1≠1∧c.1≠2∧0<Z v c;·rw[ZGE h,ZHJ (by simpa using h)];rfl
 ·rw[ZGA h,ZHI (by simpa using h)];rfl
theorem uF(v:Nat)(q:List O)(c:O):Aj v (q++[c])=Aj v q++if Z v c≠0∧c.1≠1∧c.1≠2∧¬0<Z v c then[c]else[]:=by
 unfold Aj;rw[ZG9];congr 1;by_cases h:Z v c≠0∧c.1≠1∧c.1≠2∧¬0<Z v c;·rw[ZGE h,ZHJ (by simpa using h)];rfl
 ·rw[ZGA h,ZHI (by simpa using h)];rfl
theorem LN{f:O→Bool}{p:List O}(i:Nat):((p.take i).filter f).length≤i:=ZGd (ZGf _ _) (by rw[ZGP];omega)
theorem Za{q:List O}{n:Nat}(h:KY n q):Ct.pre ([q],()):=⟨by show([q]:List (List O)).length≤_;simp,λr hr=>by have hr':r∈[q]:=hr;rw[List.mem_singleton.1 hr'];exact⟨h.D.1,n,h.D.2⟩⟩
theorem EO.spec(p:List O)(n v:Int)(hp:EO.pre (p,n,v,())):EO.wp p n v λr=>r=EO.fn (p,n,v,()):=by
 obtain⟨hN,CY,Bk⟩:=hp;simp only at hN CY Bk;obtain⟨V,rfl⟩:∃V:Nat,v=(V:Int):=⟨v.toNat,by omega⟩;obtain⟨N,rfl⟩:∃N:Nat,n=(N:Int):=⟨n.toNat,by omega⟩;have EH:=hN.1;have Nd:=hN.2.2.2;have hfn:EO.fn (p,(N:Int),(V:Int),())=BE p N V:=rfl;have RP:∀l:AN,CD.fn (l,(V:Int),())=(Az l.1 V,l.2):=λ_=>rfl;have GF:∀a l b m,BY.fn (a,l,b,m,())=BD a l b m:=λ_ _ _ _=>rfl;have Ye:∀l,Ct.fn (l,())=GN l:=λ_=>rfl;have Yz:∀p(i:Int),Fo.fn (p,i,(V:Int),())=H6 V p i.toNat:=λ_ _=>rfl;have Bn:∀p free,D0.fn (p,free,(V:Int),())=SH p free V:=λ_ _=>rfl;simp only[EO.wp,hfn,BV.fn,RP,GF,Ye,Yz,Bn,ZGD];have PV:∀c∈p,BV.pre (Z V c,()):=λc hc=>by have :=E7 (hN.c hc).1 V;exact⟨by show-2305843009213693952≤Z V c;omega,by show Z V c≤2305843009213693952;omega⟩
 refine Lp.iter p.length (λi z=>z=((i:Int),Cg V p i,Ba V (p.take i),Cc V (p.take i),Ak V (p.take i),Aj V (p.take i))) (by simp[Cg,Ba,Cc,Ak,Aj]) ?_;rintro i z hle rfl R hR;by_cases e:i<p.length
 ·have e':(i:Int)<(p.length:Int):=by omega
  have hm:=AV (d:=U) e;have hR':=hR e _ rfl;rw[H7 (d:=U) e,jH,gK,pH,uF,XD]at hR';simp only[ZGB e',ZGD,ZGC];have ZBj:JL V p (Cg V p i) i=if Z V (p.getD i U)≠0∧(p.getD i U).1=1∧(Cg V p i<0∨AR (Z V (p.getD i U))<AR (Z V (p.getD (Cg V p i).toNat U)))then(i:Int)else Cg V p i:=rfl;rw[ZBj]at hR';obtain⟨c,hq⟩:∃c,p.getD i U=c:=⟨_,rfl⟩;simp only[hq]at hm hR'⊢;have Ej:=hN.c hm;have hlen:(V:Int)<(c.2.2.1.length:Int):=by have :=Ej.2;omega
  have D4:c.2.2.1.getD V 0=Z V c:=rfl;simp only[D4];have Ci:AA IntKind.i64 ((i:Int)+1):=⟨by omega,by omega⟩;have l1:=LN (f:=λc=>decide (Z V c=0)) (p:=p) i;have l2:(Cc V (p.take i)).length≤i:=LN i;have l3:(Ak V (p.take i)).length≤i:=LN i;have l4:(Aj V (p.take i)).length≤i:=LN i;have l1':(Ba V (p.take i)).length≤i:=by unfold Ba;rw[ZGM];exact l1
  refine⟨⟨by omega,e'⟩,⟨by omega,hlen⟩,?_⟩;by_cases h0:Z V c=0;·rw[show(Z V c==0)=true by simpa using h0,ZGC];rw[ZGA λh=>h.1 h0,ZGE h0,ZGA λh=>h.1 h0,ZGA λh=>h.1 h0,ZGA λh=>h.1 h0,ZGZ,ZGZ,ZGZ]at hR';exact⟨⟨by show c.2.2.1.length≤1048576;omega,by show(0:Int)≤V;omega,by show(V:Int)<(c.2.2.1.length:Int);omega⟩,⟨by simp only[ZGO];omega,by simp only[ZGO];omega⟩,Ci,hR'⟩
  ·rw[show(Z V c==0)=false by simpa using h0,ZF9];rw[ZGA (show¬Z V c=0 from h0),ZGZ]at hR';by_cases h1:c.1=1
   ·rw[show(c.1==1)=true by simpa using h1,ZGC];rw[ZGA (show¬(Z V c≠0∧c.1=2)from λh=>by omega),ZGA (show¬(Z V c≠0∧c.1≠1∧c.1≠2∧0<Z V c)from λh=>h.2.1 h1),ZGA (show¬(Z V c≠0∧c.1≠1∧c.1≠2∧¬0<Z V c)from λh=>h.2.1 h1),ZGZ,ZGZ,ZGZ]at hR';have hJ:=Oo V p i (by omega);obtain⟨E,hE⟩:∃E,Cg V p i=E:=⟨_,rfl⟩;simp only[hE]at hJ hR'⊢;by_cases LP:E<0;·simp only[ZGB LP,ZGq,ZHp,ZGC];rw[ZGE ⟨h0,h1,.inl LP⟩]at hR';simp only[ZGh,false_implies,ZKn,ZIz];exact⟨Ci,hR'⟩
    ·have hEp:0≤E∧E<(i:Int):=by rcases hJ with h|h<;>omega
     have PL:=AV (d:=U) (show E.toNat<p.length by omega);obtain⟨ce,Iu⟩:∃ce,p.getD E.toNat U=ce:=⟨_,rfl⟩;simp only[Iu]at PL hR'⊢;have ZFi:=(hN.c PL).2;have Xy:ce.2.2.1.getD V 0=Z V ce:=rfl;simp only[Xy,ZGF LP,ZGz,ZHh];refine⟨λh=>⟨h,PV c hm⟩,λh=>⟨h,h,by omega,by omega⟩,λh=>⟨h,trivial⟩,λh=>⟨h,trivial⟩,λh=>⟨h,trivial⟩,λh=>⟨h,h,by omega,by omega⟩,λh=>⟨h,trivial⟩,λh=>⟨h,PV ce PL⟩,λh=>⟨h,h,trivial⟩,λ_=>trivial,?_⟩;by_cases Ab:AR (Z V c)<AR (Z V ce);·rw[ZGB Ab,ZGC];rw[ZGE ⟨h0,h1,.inr Ab⟩]at hR';exact⟨Ci,hR'⟩
     ·rw[ZGF Ab,ZF9];rw[ZGA λh=>h.2.2.elim LP Ab]at hR';exact⟨Ci,hR'⟩
   ·rw[show(c.1==1)=false by simpa using h1,ZF9];rw[ZGA λh=>h1 h.2.1]at hR';by_cases h2:c.1=2;·rw[show(c.1==2)=true by simpa using h2,ZGC];rw[ZGE ⟨h0,h2⟩,ZGA λh=>h.2.2.1 h2,ZGA λh=>h.2.2.1 h2,ZGZ,ZGZ]at hR';exact⟨⟨by simp only[ZGO];omega,by simp only[ZGO];omega⟩,Ci,hR'⟩
    ·rw[show(c.1==2)=false by simpa using h2,ZF9];rw[ZGA (show¬(Z V c≠0∧c.1=2)from λh=>h2 h.2),ZGZ]at hR';by_cases AU:0<Z V c;·rw[ZGB AU,ZGC];rw[ZGE ⟨h0,h1,h2,AU⟩,ZGA λh=>h.2.2.2 AU,ZGZ]at hR';exact⟨⟨by simp only[ZGO];omega,by simp only[ZGO];omega⟩,Ci,hR'⟩
     ·rw[ZGF AU,ZF9];rw[ZGA λh=>AU h.2.2.2,ZGE ⟨h0,h1,h2,AU⟩,ZGZ]at hR';exact⟨⟨by simp only[ZGO];omega,by simp only[ZGO];omega⟩,Ci,hR'⟩
 have :i=p.length:=by omega
 subst this;simp only[ZGH,ZGQ,ZF9,ZGN];have hJ:=Oo V p p.length (ZGR _);have Xm:Cg V p p.length=Eh V p:=rfl;rw[Xm]at hJ⊢;have KE:BE p N V=match Dq p N V with|none=>([],3)|some l=>GN l:=rfl;have hN':pieceN p (N:Int):=hN;by_cases hE:0≤Eh V p
 ·rw[ZGB hE,ZGC];rcases hJ with h|⟨h1,h2,h3,h4⟩;·omega
  ·have hS:Dq p N V=some [H6 V p (Eh V p).toNat]:=by unfold Dq;rw[ZGE hE]
   rw[KE,hS];exact⟨⟨⟨(N:Int),hN,by show(0:Int)≤V;omega,Bk⟩,h1,h2,h3⟩,Za (bI hN (v:=V) (by omega) (by omega) h3),rfl⟩
 ·rw[ZGF hE,ZF9];have RA:∀c∈AK V p,c.1≠1:=λc hc=>by
   have By:=Ck.1 hc;obtain⟨j,hj,YU⟩:=Fe (d:=U) By.1;rcases hJ with⟨_,h⟩|h;·have :=h j hj;rw[YU]at this;exact this By.2
   ·omega
  refine⟨λh=>⟨h,trivial⟩,λh=>⟨h,trivial⟩,λh=>⟨h,trivial⟩,λh=>⟨h,trivial⟩,λh=>⟨h,trivial⟩,λh=>⟨h,λh2=>by rw[h,h2];rfl⟩,λh=>h,?_⟩;have PM:∀l:List O,(((l.length:Nat):Int)==0)=l.isEmpty:=λl=>by cases l<;>simp;omega
  simp only[PM];have ZBV:(Ak V p).length≤400:=ZGd (ZGf _ _) EH;have mZ:(Aj V p).length≤400:=ZGd (ZGf _ _) EH;by_cases hA:Cc V p=[]∧(Ak V p=[]∨Aj V p=[])
  ·have hc:((Cc V p).isEmpty&&((Ak V p).isEmpty||(Aj V p).isEmpty))=true:=by rcases hA with⟨h1,h2|h2⟩<;>simp[h1,h2]
   rw[hc,ZGC];have hS:Dq p N V=some [Ba V p]:=by unfold Dq;rw[ZGA hE,ZGE hA]
   rw[KE,hS];exact⟨Za (n:=N-1) ⟨by have :=LO (v:=V) (p:=p);omega,Ta hN (v:=V) (by omega)⟩,rfl⟩
  ·have hc:((Cc V p).isEmpty&&((Ak V p).isEmpty||(Aj V p).isEmpty))=false:=by cases hh:(Cc V p).isEmpty&&((Ak V p).isEmpty||(Aj V p).isEmpty)with|false=>rfl|true=>simp only[ZGW,ZHn,List.isEmpty_iff]at hh;exact absurd hh hA
   rw[hc,ZF9];refine Lp.iter (Ak V p).length (λi z=>z=((i:Int),(Cc V p).isEmpty&&((Ak V p).take i).all λx=>(Aj V p).all λy=>decide (Z V x=1∨Z V y=-1))) (by simp) ?_;rintro i z hi rfl R1 BC;by_cases e:i<(Ak V p).length
   ·have e':(i:Int)<((Ak V p).length:Int):=by omega
    have hm:=AV (d:=U) e;have A7:=BC e _ rfl;rw[H7 (d:=U) e,ZIR]at A7;simp only[ZGB e',ZGD,ZGC];obtain⟨x,hx⟩:∃x,(Ak V p).getD i U=x:=⟨_,rfl⟩;simp only[hx]at hm A7⊢;have RQ:=hN.c (List.mem_filter.1 hm).1;have GG:(V:Int)<(x.2.2.1.length:Int):=by have :=RQ.2;omega
    refine⟨⟨by omega,e'⟩,e,?_⟩;have Xz:x.2.2.1.getD V 0=Z V x:=rfl;simp only[Xz];obtain⟨b0,Du⟩:∃b0,((Cc V p).isEmpty&&((Ak V p).take i).all λx=>(Aj V p).all λy=>decide (Z V x=1∨Z V y=-1))=b0:=⟨_,rfl⟩;rw[←ZJr,Du]at A7;simp only[Du];refine Lp.iter (Aj V p).length (λj z=>z=((j:Int),b0&&((Aj V p).take j).all λy=>decide (Z V x=1∨Z V y=-1))) (by simp) ?_;rintro j z hj rfl R2 BJ;by_cases ej:j<(Aj V p).length
    ·have ej':(j:Int)<((Aj V p).length:Int):=by omega
     have Q9:=AV (d:=U) ej;have DX:=BJ ej _ rfl;rw[H7 (d:=U) ej,ZIR]at DX;simp only[ZGB ej',ZGD,ZGC];obtain⟨y,hy⟩:∃y,(Aj V p).getD j U=y:=⟨_,rfl⟩;simp only[hy]at Q9 DX⊢;have RT:=hN.c (List.mem_filter.1 Q9).1;have MU:(V:Int)<(y.2.2.1.length:Int):=by have :=RT.2;omega
     have X0:y.2.2.1.getD V 0=Z V y:=rfl;simp only[X0];obtain⟨b1,Gm⟩:∃b1,(b0&&((Aj V p).take j).all λy=>decide (Z V x=1∨Z V y=-1))=b1:=⟨_,rfl⟩;rw[←ZJr,Gm]at DX;simp only[Gm];refine⟨⟨by omega,ej'⟩,ej,λh=>⟨h,trivial⟩,λh=>⟨h,trivial⟩,λh=>⟨h,h,by omega,GG⟩,λh=>⟨h,trivial⟩,λh=>⟨h,trivial⟩,λh=>⟨h,trivial⟩,λh=>⟨h,trivial⟩,λh=>⟨h,trivial⟩,λh=>⟨h,h,by omega,MU⟩,λh=>⟨h,trivial⟩,λh=>⟨h,trivial⟩,λh=>⟨h,λh2=>by rw[h,h2];rfl⟩,λh=>h,⟨by omega,by omega⟩,?_⟩;have Qt:(Z V x==1||Z V y==-(1:Int))=[y].all λy=>decide (Z V x=1∨Z V y=-1):=by rw[ZIj,ZJD,ZIC];by_cases k1:Z V x=1<;>by_cases k2:Z V y=-1<;>simp[k1,k2]
     rw[Qt];exact DX
    ·have :j=(Aj V p).length:=by omega
     subst this;simp only[ZGH,ZGQ,ZF9,ZGN];refine⟨⟨by omega,by omega⟩,?_⟩;rw[ZIj,ZJD,ZIC]at A7;exact A7
   ·have :i=(Ak V p).length:=by omega
    subst this;simp only[ZGH,ZGQ,ZF9,ZGN];have hex:((Cc V p).isEmpty&&(Ak V p).all λx=>(Aj V p).all λy=>decide (Z V x=1∨Z V y=-1))=Js V p:=rfl;rw[hex];cases hX:Js V p with
    |true=>
     rw[ZGC];have hS:Dq p N V=some [I6 V p]:=by unfold Dq;rw[ZGA hE,ZGA hA,ZGE hX]
     rw[KE,hS];refine Lp.flat (Ak V p) U (Ba V p) (λx=>(Aj V p).map (Kw V x)) (by omega) (λi R hi hi' hf hR=>?_) λR=>?_
     ·have hm:=AV (d:=U) hi;simp only[ZGB hi',ZGD,ZGC];obtain⟨x,hx⟩:∃x,(Ak V p).getD i U=x:=⟨_,rfl⟩;simp only[hx]at hm hR⊢;have RQ:=hN.c (List.mem_filter.1 hm).1;have GG:(V:Int)<(x.2.2.1.length:Int):=by have :=RQ.2;omega
      have Xz:x.2.2.1.getD V 0=Z V x:=rfl;have hrx:(Az x.2.2.1 V,x.2.2.2)=AI V x:=rfl;simp only[Xz,hrx];refine⟨⟨by omega,hi'⟩,hi,?_⟩;have C2:(Ba V p++((Ak V p).take i).flatMap λx=>(Aj V p).map (Kw V x)).length≤160400:=by
       have h1:=Ov (g:=λx=>(Aj V p).map (Kw V x)) (k:=400) (l:=(Ak V p).take i) λx _=>by rw[ZGM];exact mZ
       have h2:((Ak V p).take i).length≤400:=by rw[ZGP];omega
       have h3:=ZIE h2 (ZGR 400);have h4:=LO (v:=V) (p:=p);rw[ZGI];omega
      obtain⟨o,ho⟩:∃o,Ba V p++((Ak V p).take i).flatMap (λx=>(Aj V p).map (Kw V x))=o:=⟨_,rfl⟩;simp only[ho]at C2 hR⊢;refine Lp.flt (Aj V p) U o (λ_=>true) (λjy=>Kw V x jy.2) (by omega) (λj t R2 hj hj' II Dv h1 h2=>?_) λR2 hlen=>?_
      ·have Q9:=AV (d:=U) hj;simp only[ZGB hj',ZGD,ZGC];obtain⟨y,hy⟩:∃y,(Aj V p).getD j U=y:=⟨_,rfl⟩;simp only[hy]at Q9 h1⊢;have RT:=hN.c (List.mem_filter.1 Q9).1;have MU:(V:Int)<(y.2.2.1.length:Int):=by have :=RT.2;omega
       have X0:y.2.2.1.getD V 0=Z V y:=rfl;have hry:(Az y.2.2.1 V,y.2.2.2)=AI V y:=rfl;simp only[X0,hry];have Jx:=E7 RQ.1 V;have NT:=E7 RT.1 V;have hxr:=KL RQ (v:=V) (by omega);have hyr:=KL RT (v:=V) (by omega);refine⟨⟨by omega,hj'⟩,hj,⟨by omega,GG⟩,⟨by show y.2.2.1.length≤1048576;omega,by show(0:Int)≤V;omega,MU⟩,⟨by omega,MU⟩,⟨by omega,by omega⟩,⟨by show x.2.2.1.length≤1048576;omega,by show(0:Int)≤V;omega,GG⟩,⟨Jx,hyr.small (by omega) (by omega),by show-1048576≤-Z V y∧-Z V y≤1048576;omega,hxr.small (by omega) (by omega),by show(AI V y).1.length=(AI V x).1.length;rw[hxr.1,hyr.1]⟩,⟨by simp only[ZGO];omega,by simp only[ZGO];omega⟩,II,h1 trivial⟩
      ·simp only[ZGH,ZGQ,ZF9];refine⟨hf,?_⟩;have e:=P3 U (Aj V p) (λ_=>true) (Kw V x);rw[e,List.filter_eq_self.2 λ_ _=>rfl];exact hR
     ·simp only[ZGH,ZGQ,ZF9];exact⟨Za (Z1 hN (v:=V) (by omega)),rfl⟩|false=>
     rw[ZF9];have Iz:AK V p≠[]:=λh=>by
      have hdiv:Cc V p=[]:=by apply List.eq_nil_iff_forall_not_mem.2;intro c hc;have hc':=List.mem_filter.1 hc;have :c∈AK V p:=Ck.2 ⟨hc'.1,(by simpa using hc'.2:Z V c≠0∧c.1=2).1⟩;rw[h]at this;cases this
      have DM:Ak V p=[]:=by apply List.eq_nil_iff_forall_not_mem.2;intro c hc;have hc':=List.mem_filter.1 hc;have Gn:Z V c≠0∧c.1≠1∧c.1≠2∧0<Z V c:=of_decide_eq_true hc'.2;have :c∈AK V p:=Ck.2 ⟨hc'.1,Gn.1⟩;rw[h]at this;cases this
      exact hA ⟨hdiv,.inl DM⟩
     refine⟨⟨⟨(N:Int),hN,by show(0:Int)≤V;omega,Bk⟩,rfl,Iz,RA⟩,?_⟩;have Ya:(p.getD 0 U).2.2.1.length=N:=by
      have Nj:0<p.length:=by
       rcases Nj:p with _|⟨c,q⟩;·rw[Nj]at Iz;exact absurd rfl Iz
       ·simp
      have :=(hN.c (AV (d:=U) Nj)).2;omega
     have HM:SH p (Ba V p) V=if(Ac V p).2≠0 then([],3)else if(Ce V p (Ac V p).1).2≠0 then([],3)else GN (DJ V p ((p.getD 0 U).2.2.1.length-1) (Ac V p).1 (Ce V p (Ac V p).1).1.toNat):=rfl;have hS:Dq p N V=if(Ac V p).2≠0 then none else if(Ce V p (Ac V p).1).2≠0 then none else some (DJ V p (N-1) (Ac V p).1 (Ce V p (Ac V p).1).1.toNat):=by unfold Dq;rw[ZGA hE,ZGA hA,ZGA (by rw[hX];simp)]
     rw[HM,KE,hS,Ya];split;·rfl
     ·split;·rfl
      ·rfl
set_option maxRecDepth 4000
def Dt.wp(x0:List O)(x1:Int)(x2:Int)(Q:List (List O)×Int→Prop):Prop:=let v3:=Int.toNat (x2+1);AA .i64 (x1-1)∧Lp (σ:=Int×Int×Int×List O×List ( O×Int×List Int×Int)×List ( O×Int×List Int×Int)×List ( O×Int×List Int×Int)×List ( O×Int×List Int×Int)) (λy4 R4=>let v0:=x0.getD y4.1.toNat U;let v1:=v0.2.2.1.getD x2.toNat 0;let v2:=List.take x2.toNat v0.2.2.1;let v4:=[(v0.1,(v0.2.1,( v2++List.drop v3 v0.2.2.1,v0.2.2.2)))];let v5:=y4.2.2.2.2.1.length;let v6:=y4.2.2.2.2.1.getD y4.2.2.1.toNat (U,(0,(([]:List Int),0)));let v8:=[(v0,(v1,( v2++List.drop v3 v0.2.2.1,v0.2.2.2)))];let v9:=y4.2.2.2.2.2.1.length;let v10:=y4.2.2.2.2.2.2.1.length;let v11:=y4.2.2.2.2.2.2.2.length;let v12:=Fu.fn ((y4.2.1,(y4.2.2.2.1,(y4.2.2.2.2.1,(y4.2.2.1,(y4.2.2.2.2.2.2.1,(y4.2.2.2.2.2.2.2,y4.2.2.2.2.2.1)))))),());let v27:=List.replicate y4.2.1.toNat 0;let v78:=FT.fn ((y4.2.1,(y4.2.2.2.1,(y4.2.2.2.2.1,(y4.2.2.1,(y4.2.2.2.2.2.2.1,(y4.2.2.2.2.2.2.2,y4.2.2.2.2.2.1)))))),());cond (decide (y4.1<x0.length)) ((0≤y4.1∧y4.1<x0.length)∧v0.2.2.1.length*8≤140737488355328∧AA .i64 (x2+1)∧(v0.2.2.1≠([]:List Int)∧0≤x2∧x2≤x2+1∧x2+1≤v0.2.2.1.length)∧(0≤x2∧x2<v0.2.2.1.length)∧cond (v1==0) (((y4.2.2.2.1.length+v4.length)*48≤140737488355328∧y4.2.2.2.1.length+v4.length≤9223372036854775807)∧AA .i64 (y4.1+1)∧R4 ( y4.1+1,(y4.2.1,(y4.2.2.1,( y4.2.2.2.1++v4,y4.2.2.2.2))))) (cond (v0.1==1) (((! decide (y4.2.2.1<0))=true→(! decide (y4.2.2.1<0))=true∧AA .i64 (-v1))∧((! decide (y4.2.2.1<0))=true→(! decide (y4.2.2.1<0))=true∧(! decide (y4.2.2.1<0))=true∧True)∧((! decide (y4.2.2.1<0))=true→(! decide (y4.2.2.1<0))=true∧True)∧((! decide (y4.2.2.1<0))=true→(! decide (y4.2.2.1<0))=true∧True)∧((! decide (y4.2.2.1<0))=true→(! decide (y4.2.2.1<0))=true∧(! decide (y4.2.2.1<0))=true∧0≤y4.2.2.1∧y4.2.2.1<((v5:Nat):Int))∧((! decide (y4.2.2.1<0))=true→(! decide (y4.2.2.1<0))=true∧True)∧((! decide (y4.2.2.1<0))=true→(! decide (y4.2.2.1<0))=true∧Int.toNat y4.2.2.1<v5)∧((! decide (y4.2.2.1<0))=true→(! decide (y4.2.2.1<0))=true∧True)∧((! decide (y4.2.2.1<0))=true→(! decide (y4.2.2.1<0))=true∧True)∧((! decide (y4.2.2.1<0))=true→(! decide (y4.2.2.1<0))=true∧(! decide (y4.2.2.1<0))=true∧0≤y4.2.2.1∧y4.2.2.1<((v5:Nat):Int))∧((! decide (y4.2.2.1<0))=true→(! decide (y4.2.2.1<0))=true∧True)∧((! decide (y4.2.2.1<0))=true→(! decide (y4.2.2.1<0))=true∧Int.toNat y4.2.2.1<v5)∧((! decide (y4.2.2.1<0))=true→(! decide (y4.2.2.1<0))=true∧AA .i64 (-v6.2.1))∧((! decide (y4.2.2.1<0))=true→(! decide (y4.2.2.1<0))=true∧(! decide (y4.2.2.1<0))=true∧True)∧((! decide (y4.2.2.1<0))=true→(! decide (y4.2.2.1<0))=true∧(! decide (y4.2.2.1<0))=true∧True)∧(decide (y4.2.2.1<0)=false→(! decide (y4.2.2.1<0))=true)∧cond (decide (y4.2.2.1<0)||decide (max v1 (-v1)<max v6.2.1 (-v6.2.1))) (((v5+v8.length)*88≤140737488355328∧v5+v8.length≤9223372036854775807)∧AA .i64 (y4.1+1)∧R4 ( y4.1+1,(y4.2.1,(((v5:Nat):Int),(y4.2.2.2.1,( y4.2.2.2.2.1++v8,y4.2.2.2.2.2)))))) (((v5+v8.length)*88≤140737488355328∧v5+v8.length≤9223372036854775807)∧AA .i64 (y4.1+1)∧R4 ( y4.1+1,(y4.2.1,(y4.2.2.1,(y4.2.2.2.1,( y4.2.2.2.2.1++v8,y4.2.2.2.2.2))))))) (cond (v0.1==2) (((v9+v8.length)*88≤140737488355328∧v9+v8.length≤9223372036854775807)∧((v5+v8.length)*88≤140737488355328∧v5+v8.length≤9223372036854775807)∧AA .i64 (y4.1+1)∧R4 ( y4.1+1,(y4.2.1,(y4.2.2.1,(y4.2.2.2.1,( y4.2.2.2.2.1++v8,( y4.2.2.2.2.2.1++v8,y4.2.2.2.2.2.2))))))) (cond (decide (0<v1)) (((v10+v8.length)*88≤140737488355328∧v10+v8.length≤9223372036854775807)∧((v5+v8.length)*88≤140737488355328∧v5+v8.length≤9223372036854775807)∧AA .i64 (y4.1+1)∧R4 ( y4.1+1,(y4.2.1,(y4.2.2.1,(y4.2.2.2.1,( y4.2.2.2.2.1++v8,(y4.2.2.2.2.2.1,( y4.2.2.2.2.2.2.1++v8,y4.2.2.2.2.2.2.2)))))))) (((v11+v8.length)*88≤140737488355328∧v11+v8.length≤9223372036854775807)∧((v5+v8.length)*88≤140737488355328∧v5+v8.length≤9223372036854775807)∧AA .i64 (y4.1+1)∧R4 ( y4.1+1,(y4.2.1,(y4.2.2.1,(y4.2.2.2.1,( y4.2.2.2.2.1++v8,(y4.2.2.2.2.2.1,(y4.2.2.2.2.2.2.1,y4.2.2.2.2.2.2.2++v8)))))))))))) (cond (decide (0≤y4.2.2.1)) (Fu.pre ((y4.2.1,(y4.2.2.2.1,(y4.2.2.2.2.1,(y4.2.2.1,(y4.2.2.2.2.2.2.1,(y4.2.2.2.2.2.2.2,y4.2.2.2.2.2.1)))))),())∧Lp (σ:=Int×List (List O)×(ByteArray→Option Bool)) (λy6 R6=>let v13:=v12.getD y6.1.toNat ([]:List O);let v14:=A1.fn ((AD.fn (v13,())).1,());let v16:=[(AD.fn (v13,())).1];cond (decide (y6.1<v12.length)) ((0≤y6.1∧y6.1<v12.length)∧AD.pre (v13,())∧cond (((AD.fn (v13,())).2).2 !=0) (( ! 0 !=0=true→! 0 !=0=true∧True)∧((0 !=0)=false→! 0 !=0=true)∧cond ( 0 !=0||((AD.fn (v13,())).2).2 !=0) (Q (([]:List (List O)),3)) (Q (([]:List (List O)),0))) (((!((AD.fn (v13,())).2).1)=true→(!((AD.fn (v13,())).2).1)=true∧A1.pre ((AD.fn (v13,())).1,()))∧((!((AD.fn (v13,())).2).1)=true→(!((AD.fn (v13,())).2).1)=true∧(!((AD.fn (v13,())).2).1)=true∧True)∧(((AD.fn (v13,())).2).1=false→(!((AD.fn (v13,())).2).1)=true)∧cond (((AD.fn (v13,())).2).1||Option.getD (y6.2.2 v14) false) (AA .i64 (y6.1+1)∧R6 ( y6.1+1,y6.2)) (A1.pre ((AD.fn (v13,())).1,())∧((y6.2.1.length+v16.length)*24≤140737488355328∧y6.2.1.length+v16.length≤9223372036854775807)∧cond (decide (400<(( List.length (y6.2.1++v16):Nat):Int))) (((! 0 !=0)=true→! 0 !=0=true∧True)∧((0 !=0)=false→! 0 !=0=true)∧Q (([]:List (List O)),3)) (AA .i64 (y6.1+1)∧R6 ( y6.1+1,( y6.2.1++v16,Bu y6.2.2 v14 true)))))) (((! 0 !=0)=true→! 0 !=0=true∧True)∧((0 !=0)=false→! 0 !=0=true)∧Q (y6.2.1,0))) (0,(([]:List (List O)),λ(a6:ByteArray)=>(none:Option Bool)))) (cond (decide (0<((v9:Nat):Int))) (Lp (λy6 R6=>let v18:=y4.2.2.2.2.1.getD y6.1.toNat (U,(0,(([]:List Int),0)));let v19:=max v18.2.1 (-v18.2.1);cond (decide (y6.1<((v5:Nat):Int))) ((0≤y6.1∧y6.1<((v5:Nat):Int))∧Int.toNat y6.1<v5∧AA .i64 (-v18.2.1)∧((y6.2.length+List.length [v19])*8≤140737488355328∧y6.2.length+List.length [v19]≤9223372036854775807)∧AA .i64 (y6.1+1)∧R6 ( y6.1+1,y6.2++[v19])) (BP.pre (y6.2,())∧cond ((BP.fn (y6.2,())).2 !=0) (( ! 3 !=0=true→! 3 !=0=true∧True)∧((3 !=0)=false→(! 3 !=0)=true)∧Q (([]:List (List O)),3)) (Lp (σ:=Int×List Int×List ( O×Int×List Int×Int)) (λy8 R8=>let v21:=y8.2.2.getD y8.1.toNat (U,(0,(([]:List Int),0)));let v22:=max v21.2.1 (-v21.2.1);let v23:=Int.tdiv (BP.fn (y6.2,())).1 v22;let v24:=List.length [v21.1.2.1*v23];let v26:=List.set y8.2.2 y8.1.toNat ((v21.1.1,( v21.1.2.1*v23,(([]:List Int),0))),( v21.2.1*v23,Bm.fn (v23,(v21.2.2,(0,(v21.2.2,()))))));cond (decide (y8.1<((v5:Nat):Int))) ((0≤y8.1∧y8.1<y8.2.2.length)∧Int.toNat y8.1<y8.2.2.length∧AA .i64 (-v21.2.1)∧(v22≠0∧AA .i64 v23)∧AA .i64 (v21.1.2.1*v23)∧AA .i64 (v21.2.1*v23)∧Bm.pre (v23,(v21.2.2,(0,(v21.2.2,()))))∧(0≤y8.1∧y8.1<y8.2.2.length)∧Int.toNat y8.1<y8.2.2.length∧cond (v21.1.1==2) (AA .i64 (v21.1.2.1*v23)∧((y8.2.1.length+v24)*8≤140737488355328∧y8.2.1.length+v24≤9223372036854775807)∧AA .i64 (y8.1+1)∧R8 ( y8.1+1,( y8.2.1++[v21.1.2.1*v23],v26))) (AA .i64 (y8.1+1)∧R8 ( y8.1+1,(y8.2.1,v26)))) (BP.pre (y8.2.1,())∧cond ((BP.fn (y8.2.1,())).2 !=0) (( ! 3 !=0=true→! 3 !=0=true∧True)∧((3 !=0)=false→(! 3 !=0)=true)∧Q (([]:List (List O)),3)) (( !((v10:Nat):Int)==0=true→!((v10:Nat):Int)==0=true∧True)∧( !((v10:Nat):Int)==0=true→!((v10:Nat):Int)==0=true∧True)∧((!((v10:Nat):Int)==0)=true→(!((v10:Nat):Int)==0)=true∧True)∧((((v10:Nat):Int)==0)=false→(!((v10:Nat):Int)==0)=true)∧cond (((v10:Nat):Int)==0||((v11:Nat):Int)==0) (Lp (σ:=Int×List (List O)×(ByteArray→Option Bool)) (λy10 R10=>let v28:=CM.fn ((y4.2.1,(y4.2.2.2.1,(y8.2.2,(y4.2.2.1,(y4.2.2.2.2.2.2.1,(y4.2.2.2.2.2.2.2,y4.2.2.2.2.2.1)))))),((BP.fn (y6.2,())).1,((v27,y10.1),(false,()))));let v29:=A1.fn ((AD.fn (v28,())).1,());let v31:=[(AD.fn (v28,())).1];cond (decide (y10.1<(BP.fn (y8.2.1,())).1)) ((0≤y4.2.1∧y4.2.1≤y4.2.1∧y4.2.1*((8:Nat):Int)≤140737488355328∧y4.2.1≤9223372036854775807)∧CM.pre ((y4.2.1,(y4.2.2.2.1,(y8.2.2,(y4.2.2.1,(y4.2.2.2.2.2.2.1,(y4.2.2.2.2.2.2.2,y4.2.2.2.2.2.1)))))),((BP.fn (y6.2,())).1,((v27,y10.1),(false,()))))∧AD.pre (v28,())∧cond (((AD.fn (v28,())).2).2 !=0) (( ! 0 !=0=true→(! 0 !=0)=true∧True)∧((0 !=0)=false→(! 0 !=0)=true)∧cond ( 0 !=0||((AD.fn (v28,())).2).2 !=0) (Q (([]:List (List O)),3)) (Q (([]:List (List O)),0))) (((!((AD.fn (v28,())).2).1)=true→(!((AD.fn (v28,())).2).1)=true∧A1.pre ((AD.fn (v28,())).1,()))∧((!((AD.fn (v28,())).2).1)=true→(!((AD.fn (v28,())).2).1)=true∧(!((AD.fn (v28,())).2).1)=true∧True)∧(((AD.fn (v28,())).2).1=false→(!((AD.fn (v28,())).2).1)=true)∧cond (((AD.fn (v28,())).2).1||Option.getD (y10.2.2 v29) false) (AA .i64 (y10.1+1)∧R10 ( y10.1+1,y10.2)) (A1.pre ((AD.fn (v28,())).1,())∧((y10.2.1.length+v31.length)*24≤140737488355328∧y10.2.1.length+v31.length≤9223372036854775807)∧cond (decide (400<(( List.length (y10.2.1++v31):Nat):Int))) (( ! 0 !=0=true→! 0 !=0=true∧True)∧((0 !=0)=false→(! 0 !=0)=true)∧Q (([]:List (List O)),3)) (AA .i64 (y10.1+1)∧R10 ( y10.1+1,( y10.2.1++v31,Bu y10.2.2 v29 true)))))) (((! 0 !=0)=true→(! 0 !=0)=true∧True)∧((0 !=0)=false→(! 0 !=0)=true)∧Q (y10.2.1,0))) (0,(([]:List (List O)),λ(a10:ByteArray)=>(none:Option Bool)))) (Lp (σ:=Int×List (List O)×(ByteArray→Option Bool)) (λy10 R10=>let v33:=y8.2.2.getD y10.1.toNat (U,(0,(([]:List Int),0)));let v34:=Bm.fn (-1,(v33.2.2,(0,(v33.2.2,()))));cond (decide (y10.1<y8.2.2.length)) ((0≤y10.1∧y10.1<y8.2.2.length)∧( ! v33.1.1==2=true→! v33.1.1==2=true∧True)∧((! v33.1.1==2)=true→! v33.1.1==2=true∧True)∧((! v33.1.1==2)=true→! v33.1.1==2=true∧! v33.1.1==2=true∧True)∧((v33.1.1==2)=false→! v33.1.1==2=true)∧cond ( v33.1.1==2||decide (0<v33.2.1)!=decide (((v10:Nat):Int)≤((v11:Nat):Int))) (AA .i64 (y10.1+1)∧R10 ( y10.1+1,y10.2)) (Lp (σ:=Int×List (List O)×(ByteArray→Option Bool)) (λy12 R12=>let v35:=DV.fn (v33.2.2,(-y12.1,()));let v36:=CM.fn ((y4.2.1,(y4.2.2.2.1,(y8.2.2,(y4.2.2.1,(y4.2.2.2.2.2.2.1,(y4.2.2.2.2.2.2.2,y4.2.2.2.2.2.1)))))),((BP.fn (y6.2,())).1,(v35,(true,()))));let v37:=A1.fn ((AD.fn (v36,())).1,());let v39:=[(AD.fn (v36,())).1];let v41:=DV.fn (v34,(y12.1,()));let v42:=CM.fn ((y4.2.1,(y4.2.2.2.1,(y8.2.2,(y4.2.2.1,(y4.2.2.2.2.2.2.1,(y4.2.2.2.2.2.2.2,y4.2.2.2.2.2.1)))))),((BP.fn (y6.2,())).1,(v41,(true,()))));let v43:=A1.fn ((AD.fn (v42,())).1,());let v45:=[(AD.fn (v42,())).1];cond (decide (y12.1<(BP.fn (y8.2.1,())).1)) (Bm.pre (-1,(v33.2.2,(0,(v33.2.2,()))))∧DV.pre (v34,(y12.1,()))∧cond (! decide (((v10:Nat):Int)≤((v11:Nat):Int))) (AA .i64 (-y12.1)∧DV.pre (v33.2.2,(-y12.1,()))∧CM.pre ((y4.2.1,(y4.2.2.2.1,(y8.2.2,(y4.2.2.1,(y4.2.2.2.2.2.2.1,(y4.2.2.2.2.2.2.2,y4.2.2.2.2.2.1)))))),((BP.fn (y6.2,())).1,(v35,(true,()))))∧AD.pre (v36,())∧cond (((AD.fn (v36,())).2).2 !=0) (( ! 0 !=0=true→! 0 !=0=true∧True)∧((0 !=0)=false→(! 0 !=0)=true)∧cond ( 0 !=0||((AD.fn (v36,())).2).2 !=0) (Q (([]:List (List O)),3)) (Q (([]:List (List O)),0))) (((!((AD.fn (v36,())).2).1)=true→(!((AD.fn (v36,())).2).1)=true∧A1.pre ((AD.fn (v36,())).1,()))∧((!((AD.fn (v36,())).2).1)=true→(!((AD.fn (v36,())).2).1)=true∧(!((AD.fn (v36,())).2).1)=true∧True)∧(((AD.fn (v36,())).2).1=false→(!((AD.fn (v36,())).2).1)=true)∧cond (((AD.fn (v36,())).2).1||Option.getD (y12.2.2 v37) false) (AA .i64 (y12.1+1)∧R12 ( y12.1+1,y12.2)) (A1.pre ((AD.fn (v36,())).1,())∧((y12.2.1.length+v39.length)*24≤140737488355328∧y12.2.1.length+v39.length≤9223372036854775807)∧cond (decide (400<(( List.length (y12.2.1++v39):Nat):Int))) (((! 0 !=0)=true→! 0 !=0=true∧True)∧((0 !=0)=false→! 0 !=0=true)∧Q (([]:List (List O)),3)) (AA .i64 (y12.1+1)∧R12 ( y12.1+1,( y12.2.1++v39,Bu y12.2.2 v37 true)))))) (CM.pre ((y4.2.1,(y4.2.2.2.1,(y8.2.2,(y4.2.2.1,(y4.2.2.2.2.2.2.1,(y4.2.2.2.2.2.2.2,y4.2.2.2.2.2.1)))))),((BP.fn (y6.2,())).1,(v41,(true,()))))∧AD.pre (v42,())∧cond (((AD.fn (v42,())).2).2 !=0) (((! 0 !=0)=true→(! 0 !=0)=true∧True)∧((0 !=0)=false→! 0 !=0=true)∧cond ( 0 !=0||((AD.fn (v42,())).2).2 !=0) (Q (([]:List (List O)),3)) (Q (([]:List (List O)),0))) (((!((AD.fn (v42,())).2).1)=true→(!((AD.fn (v42,())).2).1)=true∧A1.pre ((AD.fn (v42,())).1,()))∧((!((AD.fn (v42,())).2).1)=true→(!((AD.fn (v42,())).2).1)=true∧(!((AD.fn (v42,())).2).1)=true∧True)∧(((AD.fn (v42,())).2).1=false→(!((AD.fn (v42,())).2).1)=true)∧cond (((AD.fn (v42,())).2).1||Option.getD (y12.2.2 v43) false) (AA .i64 (y12.1+1)∧R12 ( y12.1+1,y12.2)) (A1.pre ((AD.fn (v42,())).1,())∧((y12.2.1.length+v45.length)*24≤140737488355328∧y12.2.1.length+v45.length≤9223372036854775807)∧cond (decide (400<(( List.length (y12.2.1++v45):Nat):Int))) (((! 0 !=0)=true→! 0 !=0=true∧True)∧((0 !=0)=false→! 0 !=0=true)∧Q (([]:List (List O)),3)) (AA .i64 (y12.1+1)∧R12 ( y12.1+1,( y12.2.1++v45,Bu y12.2.2 v43 true))))))) (AA .i64 (y10.1+1)∧R10 ( y10.1+1,y12.2))) (0,y10.2))) (( ! 0 !=0=true→! 0 !=0=true∧True)∧((0 !=0)=false→(! 0 !=0)=true)∧Q (y10.2.1,0))) (0,(([]:List (List O)),λ(a10:ByteArray)=>(none:Option Bool))))))) (0,([(BP.fn (y6.2,())).1],y4.2.2.2.2.1))))) (0,([]:List Int))) (Lp (λy6 R6=>let v47:=y4.2.2.2.2.2.2.1.getD y6.toNat (U,(0,(([]:List Int),0)));cond (decide (y6<((v10:Nat):Int))) ((0≤y6∧y6<((v10:Nat):Int))∧Lp (λy8 R8=>cond (decide (y8<((v11:Nat):Int))) ((0≤y8∧y8<((v11:Nat):Int))∧((v47.2.1 !=1)=true→(v47.2.1 !=1)=true∧True)∧((v47.2.1 !=1)=true→(v47.2.1 !=1)=true∧True)∧((v47.2.1 !=1)=true→(v47.2.1 !=1)=true)∧cond ( v47.2.1 !=1&&(y4.2.2.2.2.2.2.2.getD y8.toNat (U,(0,(([]:List Int),0)))).2.1 !=-1) (Lp (λy10 R10=>let v49:=y4.2.2.2.2.1.getD y10.1.toNat (U,(0,(([]:List Int),0)));let v50:=max v49.2.1 (-v49.2.1);cond (decide (y10.1<((v5:Nat):Int))) ((0≤y10.1∧y10.1<((v5:Nat):Int))∧Int.toNat y10.1<v5∧AA .i64 (-v49.2.1)∧((y10.2.length+List.length [v50])*8≤140737488355328∧y10.2.length+List.length [v50]≤9223372036854775807)∧AA .i64 (y10.1+1)∧R10 ( y10.1+1,y10.2++[v50])) (BP.pre (y10.2,())∧cond ((BP.fn (y10.2,())).2 !=0) (((! 3 !=0)=true→(! 3 !=0)=true∧True)∧((3 !=0)=false→(! 3 !=0)=true)∧Q (([]:List (List O)),3)) (Lp (σ:=Int×List Int×List ( O×Int×List Int×Int)) (λy12 R12=>let v52:=y12.2.2.getD y12.1.toNat (U,(0,(([]:List Int),0)));let v53:=max v52.2.1 (-v52.2.1);let v54:=Int.tdiv (BP.fn (y10.2,())).1 v53;let v55:=List.length [v52.1.2.1*v54];let v57:=List.set y12.2.2 y12.1.toNat ((v52.1.1,( v52.1.2.1*v54,(([]:List Int),0))),( v52.2.1*v54,Bm.fn (v54,(v52.2.2,(0,(v52.2.2,()))))));let v58:=BP.fn (y12.2.1,());cond (decide (y12.1<((v5:Nat):Int))) ((0≤y12.1∧y12.1<y12.2.2.length)∧Int.toNat y12.1<y12.2.2.length∧AA .i64 (-v52.2.1)∧(v53≠0∧AA .i64 v54)∧AA .i64 (v52.1.2.1*v54)∧AA .i64 (v52.2.1*v54)∧Bm.pre (v54,(v52.2.2,(0,(v52.2.2,()))))∧(0≤y12.1∧y12.1<y12.2.2.length)∧Int.toNat y12.1<y12.2.2.length∧cond (v52.1.1==2) (AA .i64 (v52.1.2.1*v54)∧((y12.2.1.length+v55)*8≤140737488355328∧y12.2.1.length+v55≤9223372036854775807)∧AA .i64 (y12.1+1)∧R12 ( y12.1+1,( y12.2.1++[v52.1.2.1*v54],v57))) (AA .i64 (y12.1+1)∧R12 ( y12.1+1,(y12.2.1,v57)))) (BP.pre (y12.2.1,())∧cond (v58.2 !=0) (((! 3 !=0)=true→(! 3 !=0)=true∧True)∧((3 !=0)=false→(! 3 !=0)=true)∧Q (([]:List (List O)),3)) (( !((v10:Nat):Int)==0=true→(!((v10:Nat):Int)==0)=true∧True)∧( !((v10:Nat):Int)==0=true→(!((v10:Nat):Int)==0)=true∧True)∧( !((v10:Nat):Int)==0=true→!((v10:Nat):Int)==0=true∧True)∧((((v10:Nat):Int)==0)=false→!((v10:Nat):Int)==0=true)∧cond (((v10:Nat):Int)==0||((v11:Nat):Int)==0) (Lp (σ:=Int×List (List O)×(ByteArray→Option Bool)) (λy14 R14=>let v59:=CM.fn ((y4.2.1,(y4.2.2.2.1,(y12.2.2,(y4.2.2.1,(y4.2.2.2.2.2.2.1,(y4.2.2.2.2.2.2.2,y4.2.2.2.2.2.1)))))),((BP.fn (y10.2,())).1,((v27,y14.1),(false,()))));let v60:=A1.fn ((AD.fn (v59,())).1,());let v62:=[(AD.fn (v59,())).1];cond (decide (y14.1<v58.1)) ((0≤y4.2.1∧y4.2.1≤y4.2.1∧y4.2.1*((8:Nat):Int)≤140737488355328∧y4.2.1≤9223372036854775807)∧CM.pre ((y4.2.1,(y4.2.2.2.1,(y12.2.2,(y4.2.2.1,(y4.2.2.2.2.2.2.1,(y4.2.2.2.2.2.2.2,y4.2.2.2.2.2.1)))))),((BP.fn (y10.2,())).1,((v27,y14.1),(false,()))))∧AD.pre (v59,())∧cond (((AD.fn (v59,())).2).2 !=0) (( ! 0 !=0=true→! 0 !=0=true∧True)∧((0 !=0)=false→! 0 !=0=true)∧cond ( 0 !=0||((AD.fn (v59,())).2).2 !=0) (Q (([]:List (List O)),3)) (Q (([]:List (List O)),0))) (((!((AD.fn (v59,())).2).1)=true→(!((AD.fn (v59,())).2).1)=true∧A1.pre ((AD.fn (v59,())).1,()))∧((!((AD.fn (v59,())).2).1)=true→(!((AD.fn (v59,())).2).1)=true∧(!((AD.fn (v59,())).2).1)=true∧True)∧(((AD.fn (v59,())).2).1=false→(!((AD.fn (v59,())).2).1)=true)∧cond (((AD.fn (v59,())).2).1||Option.getD (y14.2.2 v60) false) (AA .i64 (y14.1+1)∧R14 ( y14.1+1,y14.2)) (A1.pre ((AD.fn (v59,())).1,())∧((y14.2.1.length+v62.length)*24≤140737488355328∧y14.2.1.length+v62.length≤9223372036854775807)∧cond (decide (400<(( List.length (y14.2.1++v62):Nat):Int))) (((! 0 !=0)=true→! 0 !=0=true∧True)∧((0 !=0)=false→! 0 !=0=true)∧Q (([]:List (List O)),3)) (AA .i64 (y14.1+1)∧R14 ( y14.1+1,( y14.2.1++v62,Bu y14.2.2 v60 true)))))) (( ! 0 !=0=true→! 0 !=0=true∧True)∧((0 !=0)=false→! 0 !=0=true)∧Q (y14.2.1,0))) (0,(([]:List (List O)),λ(a14:ByteArray)=>(none:Option Bool)))) (Lp (σ:=Int×List (List O)×(ByteArray→Option Bool)) (λy14 R14=>let v64:=y12.2.2.getD y14.1.toNat (U,(0,(([]:List Int),0)));let v65:=Bm.fn (-1,(v64.2.2,(0,(v64.2.2,()))));cond (decide (y14.1<y12.2.2.length)) ((0≤y14.1∧y14.1<y12.2.2.length)∧((! v64.1.1==2)=true→(! v64.1.1==2)=true∧True)∧( ! v64.1.1==2=true→! v64.1.1==2=true∧True)∧( ! v64.1.1==2=true→! v64.1.1==2=true∧! v64.1.1==2=true∧True)∧((v64.1.1==2)=false→! v64.1.1==2=true)∧cond ( v64.1.1==2||decide (0<v64.2.1)!=decide (((v10:Nat):Int)≤((v11:Nat):Int))) (AA .i64 (y14.1+1)∧R14 ( y14.1+1,y14.2)) (Lp (σ:=Int×List (List O)×(ByteArray→Option Bool)) (λy16 R16=>let v66:=DV.fn (v64.2.2,(-y16.1,()));let v67:=CM.fn ((y4.2.1,(y4.2.2.2.1,(y12.2.2,(y4.2.2.1,(y4.2.2.2.2.2.2.1,(y4.2.2.2.2.2.2.2,y4.2.2.2.2.2.1)))))),((BP.fn (y10.2,())).1,(v66,(true,()))));let v68:=A1.fn ((AD.fn (v67,())).1,());let v70:=[(AD.fn (v67,())).1];let v72:=DV.fn (v65,(y16.1,()));let v73:=CM.fn ((y4.2.1,(y4.2.2.2.1,(y12.2.2,(y4.2.2.1,(y4.2.2.2.2.2.2.1,(y4.2.2.2.2.2.2.2,y4.2.2.2.2.2.1)))))),((BP.fn (y10.2,())).1,(v72,(true,()))));let v74:=A1.fn ((AD.fn (v73,())).1,());let v76:=[(AD.fn (v73,())).1];cond (decide (y16.1<v58.1)) (Bm.pre (-1,(v64.2.2,(0,(v64.2.2,()))))∧DV.pre (v65,(y16.1,()))∧cond (! decide (((v10:Nat):Int)≤((v11:Nat):Int))) (AA .i64 (-y16.1)∧DV.pre (v64.2.2,(-y16.1,()))∧CM.pre ((y4.2.1,(y4.2.2.2.1,(y12.2.2,(y4.2.2.1,(y4.2.2.2.2.2.2.1,(y4.2.2.2.2.2.2.2,y4.2.2.2.2.2.1)))))),((BP.fn (y10.2,())).1,(v66,(true,()))))∧AD.pre (v67,())∧cond (((AD.fn (v67,())).2).2 !=0) (( ! 0 !=0=true→! 0 !=0=true∧True)∧((0 !=0)=false→(! 0 !=0)=true)∧cond ( 0 !=0||((AD.fn (v67,())).2).2 !=0) (Q (([]:List (List O)),3)) (Q (([]:List (List O)),0))) (((!((AD.fn (v67,())).2).1)=true→(!((AD.fn (v67,())).2).1)=true∧A1.pre ((AD.fn (v67,())).1,()))∧((!((AD.fn (v67,())).2).1)=true→(!((AD.fn (v67,())).2).1)=true∧(!((AD.fn (v67,())).2).1)=true∧True)∧(((AD.fn (v67,())).2).1=false→(!((AD.fn (v67,())).2).1)=true)∧cond (((AD.fn (v67,())).2).1||Option.getD (y16.2.2 v68) false) (AA .i64 (y16.1+1)∧R16 ( y16.1+1,y16.2)) (A1.pre ((AD.fn (v67,())).1,())∧((y16.2.1.length+v70.length)*24≤140737488355328∧y16.2.1.length+v70.length≤9223372036854775807)∧cond (decide (400<(( List.length (y16.2.1++v70):Nat):Int))) (( ! 0 !=0=true→! 0 !=0=true∧True)∧((0 !=0)=false→(! 0 !=0)=true)∧Q (([]:List (List O)),3)) (AA .i64 (y16.1+1)∧R16 ( y16.1+1,( y16.2.1++v70,Bu y16.2.2 v68 true)))))) (CM.pre ((y4.2.1,(y4.2.2.2.1,(y12.2.2,(y4.2.2.1,(y4.2.2.2.2.2.2.1,(y4.2.2.2.2.2.2.2,y4.2.2.2.2.2.1)))))),((BP.fn (y10.2,())).1,(v72,(true,()))))∧AD.pre (v73,())∧cond (((AD.fn (v73,())).2).2 !=0) (((! 0 !=0)=true→! 0 !=0=true∧True)∧((0 !=0)=false→! 0 !=0=true)∧cond ( 0 !=0||((AD.fn (v73,())).2).2 !=0) (Q (([]:List (List O)),3)) (Q (([]:List (List O)),0))) (((!((AD.fn (v73,())).2).1)=true→(!((AD.fn (v73,())).2).1)=true∧A1.pre ((AD.fn (v73,())).1,()))∧((!((AD.fn (v73,())).2).1)=true→(!((AD.fn (v73,())).2).1)=true∧(!((AD.fn (v73,())).2).1)=true∧True)∧(((AD.fn (v73,())).2).1=false→(!((AD.fn (v73,())).2).1)=true)∧cond (((AD.fn (v73,())).2).1||Option.getD (y16.2.2 v74) false) (AA .i64 (y16.1+1)∧R16 ( y16.1+1,y16.2)) (A1.pre ((AD.fn (v73,())).1,())∧((y16.2.1.length+v76.length)*24≤140737488355328∧y16.2.1.length+v76.length≤9223372036854775807)∧cond (decide (400<(( List.length (y16.2.1++v76):Nat):Int))) (( ! 0 !=0=true→! 0 !=0=true∧True)∧((0 !=0)=false→! 0 !=0=true)∧Q (([]:List (List O)),3)) (AA .i64 (y16.1+1)∧R16 ( y16.1+1,( y16.2.1++v76,Bu y16.2.2 v74 true))))))) (AA .i64 (y14.1+1)∧R14 ( y14.1+1,y16.2))) (0,y14.2))) (( ! 0 !=0=true→! 0 !=0=true∧True)∧((0 !=0)=false→(! 0 !=0)=true)∧Q (y14.2.1,0))) (0,(([]:List (List O)),λ(a14:ByteArray)=>(none:Option Bool))))))) (0,([(BP.fn (y10.2,())).1],y4.2.2.2.2.1))))) (0,([]:List Int))) (AA .i64 (y8+1)∧R8 (y8+1))) (AA .i64 (y6+1)∧R6 (y6+1))) 0) (FT.pre ((y4.2.1,(y4.2.2.2.1,(y4.2.2.2.2.1,(y4.2.2.1,(y4.2.2.2.2.2.2.1,(y4.2.2.2.2.2.2.2,y4.2.2.2.2.2.1)))))),())∧Lp (σ:=Int×List (List O)×(ByteArray→Option Bool)) (λy8 R8=>let v79:=v78.getD y8.1.toNat ([]:List O);let v80:=A1.fn ((AD.fn (v79,())).1,());let v82:=[(AD.fn (v79,())).1];cond (decide (y8.1<v78.length)) ((0≤y8.1∧y8.1<v78.length)∧AD.pre (v79,())∧cond (((AD.fn (v79,())).2).2 !=0) (((! 0 !=0)=true→(! 0 !=0)=true∧True)∧((0 !=0)=false→(! 0 !=0)=true)∧cond ( 0 !=0||((AD.fn (v79,())).2).2 !=0) (Q (([]:List (List O)),3)) (Q (([]:List (List O)),0))) (((!((AD.fn (v79,())).2).1)=true→(!((AD.fn (v79,())).2).1)=true∧A1.pre ((AD.fn (v79,())).1,()))∧((!((AD.fn (v79,())).2).1)=true→(!((AD.fn (v79,())).2).1)=true∧(!((AD.fn (v79,())).2).1)=true∧True)∧(((AD.fn (v79,())).2).1=false→(!((AD.fn (v79,())).2).1)=true)∧cond (((AD.fn (v79,())).2).1||Option.getD (y8.2.2 v80) false) (AA .i64 (y8.1+1)∧R8 ( y8.1+1,y8.2)) (A1.pre ((AD.fn (v79,())).1,())∧((y8.2.1.length+v82.length)*24≤140737488355328∧y8.2.1.length+v82.length≤9223372036854775807)∧cond (decide (400<(( List.length (y8.2.1++v82):Nat):Int))) (( ! 0 !=0=true→(! 0 !=0)=true∧True)∧((0 !=0)=false→(! 0 !=0)=true)∧Q (([]:List (List O)),3)) (AA .i64 (y8.1+1)∧R8 ( y8.1+1,( y8.2.1++v82,Bu y8.2.2 v80 true)))))) (( ! 0 !=0=true→! 0 !=0=true∧True)∧((0 !=0)=false→(! 0 !=0)=true)∧Q (y8.2.1,0))) (0,(([]:List (List O)),λ(a8:ByteArray)=>(none:Option Bool))))) 0)))) (0,( x1-1,(-1,(([]:List O),(([]:List ( O×Int×List Int×Int)),(([]:List ( O×Int×List Int×Int)),(([]:List ( O×Int×List Int×Int)),([]:List ( O×Int×List Int×Int)))))))))
def SL(n:Int)(oth:List O)(parts:List Part)(e:Int)(lows ups divs:List Part)(Q:List (List O)×Int→Prop):Prop:=let v5:=List.length parts;let v10:=List.length lows;let v11:=List.length ups;let v27:=List.replicate (Int.toNat n) (0:Int);Lp (σ:=Int×List Int) (λy6 R6=>let v18:=List.getD parts (Int.toNat y6.1) (U,((0:Int),(([]:List Int),(0:Int))));let v19:=Max.max v18.2.1 (-v18.2.1);cond (decide (y6.1<((v5:Nat):Int))) (((0:Int)≤y6.1∧y6.1<((v5:Nat):Int))∧Int.toNat y6.1<v5∧AA IntKind.i64 (-v18.2.1)∧((List.length y6.2+List.length [v19])*8≤140737488355328∧List.length y6.2+List.length [v19]≤9223372036854775807)∧AA IntKind.i64 (y6.1+(1:Int))∧R6 ( y6.1+(1:Int),y6.2++[v19])) (BP.pre (y6.2,())∧cond ((BP.fn (y6.2,())).2 !=(0:Int)) (((!(3:Int)!=(0:Int))=true→!(3:Int)!=(0:Int)=true∧True)∧(((3:Int)!=(0:Int))=false→!(3:Int)!=(0:Int)=true)∧Q (([]:List (List O)),(3:Int))) (Lp (σ:=Int×List Int×List ( O×Int×List Int×Int)) (λy8 R8=>let v21:=List.getD y8.2.2 (Int.toNat y8.1) (U,((0:Int),(([]:List Int),(0:Int))));let v22:=Max.max v21.2.1 (-v21.2.1);let v23:=Int.tdiv (BP.fn (y6.2,())).1 v22;let v24:=List.length [v21.1.2.1*v23];let v26:=List.set y8.2.2 (Int.toNat y8.1) ((v21.1.1,( v21.1.2.1*v23,(([]:List Int),(0:Int)))),( v21.2.1*v23,Bm.fn (v23,(v21.2.2,((0:Int),(v21.2.2,()))))));cond (decide (y8.1<((v5:Nat):Int))) (((0:Int)≤y8.1∧y8.1<((List.length y8.2.2:Nat):Int))∧Int.toNat y8.1<List.length y8.2.2∧AA IntKind.i64 (-v21.2.1)∧(v22≠(0:Int)∧AA IntKind.i64 v23)∧AA IntKind.i64 (v21.1.2.1*v23)∧AA IntKind.i64 (v21.2.1*v23)∧Bm.pre (v23,(v21.2.2,((0:Int),(v21.2.2,()))))∧((0:Int)≤y8.1∧y8.1<((List.length y8.2.2:Nat):Int))∧Int.toNat y8.1<List.length y8.2.2∧cond (v21.1.1==(2:Int)) (AA IntKind.i64 (v21.1.2.1*v23)∧((List.length y8.2.1+v24)*8≤140737488355328∧List.length y8.2.1+v24≤9223372036854775807)∧AA IntKind.i64 (y8.1+(1:Int))∧R8 ( y8.1+(1:Int),( y8.2.1++[v21.1.2.1*v23],v26))) (AA IntKind.i64 (y8.1+(1:Int))∧R8 ( y8.1+(1:Int),(y8.2.1,v26)))) (BP.pre (y8.2.1,())∧cond ((BP.fn (y8.2.1,())).2 !=(0:Int)) (( !(3:Int)!=(0:Int)=true→!(3:Int)!=(0:Int)=true∧True)∧(((3:Int)!=(0:Int))=false→(!(3:Int)!=(0:Int))=true)∧Q (([]:List (List O)),(3:Int))) (( !((v10:Nat):Int)==(0:Int)=true→(!((v10:Nat):Int)==(0:Int))=true∧True)∧( !((v10:Nat):Int)==(0:Int)=true→(!((v10:Nat):Int)==(0:Int))=true∧True)∧( !((v10:Nat):Int)==(0:Int)=true→!((v10:Nat):Int)==(0:Int)=true∧True)∧((((v10:Nat):Int)==(0:Int))=false→(!((v10:Nat):Int)==(0:Int))=true)∧cond (((v10:Nat):Int)==(0:Int)||((v11:Nat):Int)==(0:Int)) (Lp (σ:=Int×List (List O)×(ByteArray→Option Bool)) (λy10 R10=>let v28:=CM.fn ((n,(oth,(y8.2.2,(e,(lows,(ups,divs)))))),((BP.fn (y6.2,())).1,((v27,y10.1),(false,()))));let v29:=A1.fn ((AD.fn (v28,())).1,());let v31:=[(AD.fn (v28,())).1];cond (decide (y10.1<(BP.fn (y8.2.1,())).1)) (((0:Int)≤n∧n≤n∧n*((8:Nat):Int)≤(140737488355328:Int)∧n≤(9223372036854775807:Int))∧CM.pre ((n,(oth,(y8.2.2,(e,(lows,(ups,divs)))))),((BP.fn (y6.2,())).1,((v27,y10.1),(false,()))))∧AD.pre (v28,())∧cond (((AD.fn (v28,())).2).2 !=(0:Int)) (((!(0:Int)!=(0:Int))=true→!(0:Int)!=(0:Int)=true∧True)∧(((0:Int)!=(0:Int))=false→!(0:Int)!=(0:Int)=true)∧cond ((0:Int)!=(0:Int)||((AD.fn (v28,())).2).2 !=(0:Int)) (Q (([]:List (List O)),(3:Int))) (Q (([]:List (List O)),(0:Int)))) (((!((AD.fn (v28,())).2).1)=true→(!((AD.fn (v28,())).2).1)=true∧A1.pre ((AD.fn (v28,())).1,()))∧((!((AD.fn (v28,())).2).1)=true→(!((AD.fn (v28,())).2).1)=true∧(!((AD.fn (v28,())).2).1)=true∧True)∧(((AD.fn (v28,())).2).1=false→(!((AD.fn (v28,())).2).1)=true)∧cond (((AD.fn (v28,())).2).1||Option.getD (y10.2.2 v29) false) (AA IntKind.i64 (y10.1+(1:Int))∧R10 ( y10.1+(1:Int),y10.2)) (A1.pre ((AD.fn (v28,())).1,())∧((List.length y10.2.1+List.length v31)*24≤140737488355328∧List.length y10.2.1+List.length v31≤9223372036854775807)∧cond (decide ((400:Int)<(( List.length (y10.2.1++v31):Nat):Int))) (( !(0:Int)!=(0:Int)=true→(!(0:Int)!=(0:Int))=true∧True)∧(((0:Int)!=(0:Int))=false→(!(0:Int)!=(0:Int))=true)∧Q (([]:List (List O)),(3:Int))) (AA IntKind.i64 (y10.1+(1:Int))∧R10 ( y10.1+(1:Int),( y10.2.1++v31,Bu y10.2.2 v29 true)))))) (( !(0:Int)!=(0:Int)=true→(!(0:Int)!=(0:Int))=true∧True)∧(((0:Int)!=(0:Int))=false→(!(0:Int)!=(0:Int))=true)∧Q (y10.2.1,(0:Int)))) ((0:Int),(([]:List (List O)),λ(a10:ByteArray)=>(none:Option Bool)))) (Lp (σ:=Int×List (List O)×(ByteArray→Option Bool)) (λy10 R10=>let v33:=List.getD y8.2.2 (Int.toNat y10.1) (U,((0:Int),(([]:List Int),(0:Int))));let v34:=Bm.fn (-(1:Int),(v33.2.2,((0:Int),(v33.2.2,()))));cond (decide (y10.1<((List.length y8.2.2:Nat):Int))) (((0:Int)≤y10.1∧y10.1<((List.length y8.2.2:Nat):Int))∧((! v33.1.1==(2:Int))=true→! v33.1.1==(2:Int)=true∧True)∧( ! v33.1.1==(2:Int)=true→! v33.1.1==(2:Int)=true∧True)∧((! v33.1.1==(2:Int))=true→(! v33.1.1==(2:Int))=true∧! v33.1.1==(2:Int)=true∧True)∧((v33.1.1==(2:Int))=false→! v33.1.1==(2:Int)=true)∧cond ( v33.1.1==(2:Int)||decide ((0:Int)<v33.2.1)!=decide (((v10:Nat):Int)≤((v11:Nat):Int))) (AA IntKind.i64 (y10.1+(1:Int))∧R10 ( y10.1+(1:Int),y10.2)) (Lp (σ:=Int×List (List O)×(ByteArray→Option Bool)) (λy12 R12=>let v35:=DV.fn (v33.2.2,(-y12.1,()));let v36:=CM.fn ((n,(oth,(y8.2.2,(e,(lows,(ups,divs)))))),((BP.fn (y6.2,())).1,(v35,(true,()))));let v37:=A1.fn ((AD.fn (v36,())).1,());let v39:=[(AD.fn (v36,())).1];let v41:=DV.fn (v34,(y12.1,()));let v42:=CM.fn ((n,(oth,(y8.2.2,(e,(lows,(ups,divs)))))),((BP.fn (y6.2,())).1,(v41,(true,()))));let v43:=A1.fn ((AD.fn (v42,())).1,());let v45:=[(AD.fn (v42,())).1];cond (decide (y12.1<(BP.fn (y8.2.1,())).1)) (Bm.pre (-(1:Int),(v33.2.2,((0:Int),(v33.2.2,()))))∧DV.pre (v34,(y12.1,()))∧cond (! decide (((v10:Nat):Int)≤((v11:Nat):Int))) (AA IntKind.i64 (-y12.1)∧DV.pre (v33.2.2,(-y12.1,()))∧CM.pre ((n,(oth,(y8.2.2,(e,(lows,(ups,divs)))))),((BP.fn (y6.2,())).1,(v35,(true,()))))∧AD.pre (v36,())∧cond (((AD.fn (v36,())).2).2 !=(0:Int)) (( !(0:Int)!=(0:Int)=true→!(0:Int)!=(0:Int)=true∧True)∧(((0:Int)!=(0:Int))=false→!(0:Int)!=(0:Int)=true)∧cond ((0:Int)!=(0:Int)||((AD.fn (v36,())).2).2 !=(0:Int)) (Q (([]:List (List O)),(3:Int))) (Q (([]:List (List O)),(0:Int)))) (((!((AD.fn (v36,())).2).1)=true→(!((AD.fn (v36,())).2).1)=true∧A1.pre ((AD.fn (v36,())).1,()))∧((!((AD.fn (v36,())).2).1)=true→(!((AD.fn (v36,())).2).1)=true∧(!((AD.fn (v36,())).2).1)=true∧True)∧(((AD.fn (v36,())).2).1=false→(!((AD.fn (v36,())).2).1)=true)∧cond (((AD.fn (v36,())).2).1||Option.getD (y12.2.2 v37) false) (AA IntKind.i64 (y12.1+(1:Int))∧R12 ( y12.1+(1:Int),y12.2)) (A1.pre ((AD.fn (v36,())).1,())∧((List.length y12.2.1+List.length v39)*24≤140737488355328∧List.length y12.2.1+List.length v39≤9223372036854775807)∧cond (decide ((400:Int)<(( List.length (y12.2.1++v39):Nat):Int))) (((!(0:Int)!=(0:Int))=true→!(0:Int)!=(0:Int)=true∧True)∧(((0:Int)!=(0:Int))=false→(!(0:Int)!=(0:Int))=true)∧Q (([]:List (List O)),(3:Int))) (AA IntKind.i64 (y12.1+(1:Int))∧R12 ( y12.1+(1:Int),( y12.2.1++v39,Bu y12.2.2 v37 true)))))) (CM.pre ((n,(oth,(y8.2.2,(e,(lows,(ups,divs)))))),((BP.fn (y6.2,())).1,(v41,(true,()))))∧AD.pre (v42,())∧cond (((AD.fn (v42,())).2).2 !=(0:Int)) (((!(0:Int)!=(0:Int))=true→!(0:Int)!=(0:Int)=true∧True)∧(((0:Int)!=(0:Int))=false→!(0:Int)!=(0:Int)=true)∧cond ((0:Int)!=(0:Int)||((AD.fn (v42,())).2).2 !=(0:Int)) (Q (([]:List (List O)),(3:Int))) (Q (([]:List (List O)),(0:Int)))) (((!((AD.fn (v42,())).2).1)=true→(!((AD.fn (v42,())).2).1)=true∧A1.pre ((AD.fn (v42,())).1,()))∧((!((AD.fn (v42,())).2).1)=true→(!((AD.fn (v42,())).2).1)=true∧(!((AD.fn (v42,())).2).1)=true∧True)∧(((AD.fn (v42,())).2).1=false→(!((AD.fn (v42,())).2).1)=true)∧cond (((AD.fn (v42,())).2).1||Option.getD (y12.2.2 v43) false) (AA IntKind.i64 (y12.1+(1:Int))∧R12 ( y12.1+(1:Int),y12.2)) (A1.pre ((AD.fn (v42,())).1,())∧((List.length y12.2.1+List.length v45)*24≤140737488355328∧List.length y12.2.1+List.length v45≤9223372036854775807)∧cond (decide ((400:Int)<(( List.length (y12.2.1++v45):Nat):Int))) (((!(0:Int)!=(0:Int))=true→!(0:Int)!=(0:Int)=true∧True)∧(((0:Int)!=(0:Int))=false→!(0:Int)!=(0:Int)=true)∧Q (([]:List (List O)),(3:Int))) (AA IntKind.i64 (y12.1+(1:Int))∧R12 ( y12.1+(1:Int),( y12.2.1++v45,Bu y12.2.2 v43 true))))))) (AA IntKind.i64 (y10.1+(1:Int))∧R10 ( y10.1+(1:Int),y12.2))) ((0:Int),y10.2))) (( !(0:Int)!=(0:Int)=true→!(0:Int)!=(0:Int)=true∧True)∧(((0:Int)!=(0:Int))=false→(!(0:Int)!=(0:Int))=true)∧Q (y10.2.1,(0:Int)))) ((0:Int),(([]:List (List O)),λ(a10:ByteArray)=>(none:Option Bool))))))) ((0:Int),([(BP.fn (y6.2,())).1],parts))))) ((0:Int),([]:List Int))
section
theorem Zh{β:Type}{d:β}{n j:Nat}{f:Nat→β}(h:j<n):((List.range n).map f).getD j d=f j:=by rw[ZGG,ZHO,ZIY h];rfl
theorem ZCe{β:Type}{n j:Nat}{f g:Nat→β}(h:∀i,i≠j→f i=g i):((List.range n).map f).set j (g j)=(List.range n).map g:=by
 apply ZHR (by simp);intro i h1 h2;simp only[List.getElem_set,ZH9,ZHz];split;·rename_i e;rw[e]
 ·rename_i e;exact h i λe'=>e e'.symm
theorem pL{α β:Type}(d:α)(l:List α)(f:α→β):(List.range l.length).map (λi=>f (l.getD i d))=l.map f:=by apply ZHR (by simp);intro i h1 h2;simp only[ZH9,ZHz];rw[A6 (by simpa using h2)]
theorem XR{α τ:Type}(f:α→Bool)(g:τ→α→Option τ):∀(l:List α)(a:τ),l.foldlM (λt x=>if f x=true then g t x else some t) a=(l.filter f).foldlM g a
 |[],a=>rfl|x::l,a=>by
  rw[ZGc];by_cases h:f x=true;·rw[ZGE h,ZHJ h,ZGc];cases g a x with|none=>rfl|some t=>exact XR f g l t
  ·rw[ZGA h,ZHI h];exact XR f g l a
theorem jF{α β τ:Type}(f:α→List β)(g:τ→β→Option τ):∀(l:List α)(a:τ),(l.flatMap f).foldlM g a=l.foldlM (λt x=>(f x).foldlM g t) a|[],a=>rfl|x::l,a=>by rw[ZJT,ZHq,ZGc];cases(f x).foldlM g a with|none=>rfl|some t=>exact jF f g l t
def EG(v:Nat)(l:Int)(c:O):Part:=((c.1,c.2.1*Ad v l c,[],0),Z v c*Ad v l c,BD (Ad v l c) (AI v c) 0 (AI v c))
theorem VL(v:Nat)(l:Int)(c:O):(EG v l c).2.2=Dp v l c:=by unfold EG;simp only[N2];rfl
theorem ZAc{a l:Int}(h0:a≠0)(hl:l.tdiv (AR a)*AR a=l)(h1:1≤l):(a*l.tdiv (AR a)).tdiv l=C3 a:=by
 have e:a*l.tdiv (AR a)=C3 a*l:=by
  by_cases h:a<0
  ·have ha:AR a=-a:=by unfold AR;omega
   rw[ha]at hl⊢;unfold C3;rw[ZGE h,←Int.neg_inj,show-(-1*l)=l by omega,←ZKS,ZIK];exact hl
  ·have ha:AR a=a:=by unfold AR;omega
   rw[ha]at hl⊢;unfold C3;rw[ZGA h,ZLI,ZIK];exact hl
 rw[e,ZKs _ (by omega)]
theorem pV{a f:Int}(hf:1≤f):0<a*f↔0<a:=by
 constructor;·intro h;apply ZHW;intro hn;have :=Int.mul_nonpos_of_nonpos_of_nonneg (show a≤0 by omega) (show 0≤f by omega);omega
 ·exact λh=>Int.mul_pos h (by omega)
section
variable {p : List O} {N V : Nat}
theorem Pj(hN:pieceN p (N:Int))(hV:V<N){c:O}(hc:c∈p):Ph (N-1) (Ax V c):=by have Ej:=hN.c hc;have hr:=KL Ej (v:=V) (by omega);have Nd:=hN.2.2.2;exact⟨SY Ej.1,E7 Ej.1 V,hr.small (by omega) (by omega),hr.1⟩
theorem sF(hN:pieceN p (N:Int))(hV:V<N)(CW:(Ac V p).2=0){c:O}(hc:c∈AK V p):Ph (N-1) (EG V (Ac V p).1 c):=by
 have By:=Ck.1 hc;have Ej:=hN.c By.1;obtain⟨f0,f1,f2,f3⟩:=KV CW hc;obtain⟨_,l1,l2⟩:=Mb CW;have hs:=SJ Ej (v:=V) (by omega) ⟨f1,f2⟩;have JW:=bD Ej (v:=V) (by omega) hN.2.2.2 ⟨f1,f2⟩ By.2;have Nd:=hN.2.2.2;have ZA0:AR (Z V c*Ad V (Ac V p).1 c)=(Ac V p).1:=by
  refine Eq.trans ?_ f0;by_cases h:Z V c<0
  ·have h1:=Int.mul_neg_of_neg_of_pos h (show 0<Ad V (Ac V p).1 c by omega);have e1:AR (Z V c*Ad V (Ac V p).1 c)=-(Z V c*Ad V (Ac V p).1 c):=by unfold AR;omega
   have e2:AR (Z V c)=-Z V c:=by unfold AR;omega
   rw[e1,e2,Int.mul_neg,ZIK]
  ·have h1:=ZID (show 0≤Z V c by omega) (show 0≤Ad V (Ac V p).1 c by omega);have e1:AR (Z V c*Ad V (Ac V p).1 c)=Z V c*Ad V (Ac V p).1 c:=by unfold AR;omega
   have e2:AR (Z V c)=Z V c:=by unfold AR;omega
   rw[e1,e2,ZIK]
 refine⟨JW.1,?_,?_,?_⟩;·show-1048576≤Z V c*Ad V (Ac V p).1 c∧Z V c*Ad V (Ac V p).1 c≤1048576;unfold AR at ZA0;omega
 ·rw[VL];exact hs.small (by omega) (by omega)
 ·rw[VL,hs.1];rfl
theorem xE(hN:pieceN p (N:Int))(CW:(Ac V p).2=0)(n e:Int)(lows ups divs:List Part)(w:AN)(all:Bool):CM.fn ((n,Ba V p,(AK V p).map (EG V (Ac V p).1),e,lows,ups,divs),(Ac V p).1,w,all,())=CQ V p (Ac V p).1 w all:=by show Ba V p++(((AK V p).map (EG V (Ac V p).1)).filter λq=>all||decide (q.1.1=2)).map (λq=>(q.1.1,q.1.2.1,BD 1 q.2.2 (q.2.1.tdiv (Ac V p).1) w))++[(2,(Ac V p).1,w)]=_;unfold CQ;congr 2;rw[ZJj,ZHP];apply ZHA;intro c hc;have By:=(List.mem_filter.1 hc).1;obtain⟨f0,_,_,_⟩:=KV CW By;obtain⟨_,l1,_⟩:=Mb CW;show((EG V (Ac V p).1 c).1.1,(EG V (Ac V p).1 c).1.2.1,BD 1 (EG V (Ac V p).1 c).2.2 ((EG V (Ac V p).1 c).2.1.tdiv (Ac V p).1) w)=Mu V (Ac V p).1 w c;rw[VL];have :(EG V (Ac V p).1 c).2.1.tdiv (Ac V p).1=C3 (Z V c):=ZAc (Ck.1 By).2 f0 l1;rw[this];rfl
theorem xD(hN:pieceN p (N:Int))(hV:V<N)(CW:(Ac V p).2=0)(n e:Int)(divs:List Part){w:AN}(hw:Hk w∧w.1.length=N-1)(all:Bool):CM.pre ((n,Ba V p,(AK V p).map (EG V (Ac V p).1),e,(Ak V p).map (Ax V),(Aj V p).map (Ax V),divs),(Ac V p).1,w,all,()):=by
 have EH:=hN.1;have hle:∀f:O→Bool,(p.filter f).length≤400:=λf=>ZGd (ZGf _ _) EH;obtain⟨_,l1,_⟩:=Mb CW;refine⟨⟨N-1,⟨ZGd LO EH,⟨by show((AK V p).map _).length≤400;rw[ZGM];exact hle _,λq hq=>?_⟩,⟨by show((Ak V p).map _).length≤400;rw[ZGM];exact hle _,λq hq=>?_⟩,⟨by show((Aj V p).map _).length≤400;rw[ZGM];exact hle _,λq hq=>?_⟩⟩,hw.2⟩,by show(Ac V p).1≠0;omega,hw.1⟩;·obtain⟨c,hc,rfl⟩:=List.mem_map.1 hq;exact sF hN hV CW hc
 ·obtain⟨c,hc,rfl⟩:=List.mem_map.1 hq;exact Pj hN hV (List.mem_filter.1 hc).1
 ·obtain⟨c,hc,rfl⟩:=List.mem_map.1 hq;exact Pj hN hV (List.mem_filter.1 hc).1
end
theorem ZEu{p:List O}{V n:Nat}{l:Int}{d:Nat}(h:¬(Ak V p=[]∨Aj V p=[])):Bg (DJ V p n l d)=(AK V p).foldlM (λout c=>if decide (c.1≠2∧decide (0<Z V c)=C7 V p)=true then((List.range d).map λ(j:Nat)=>CQ V p l (Dx V l c (C7 V p) j) true).foldlM BT out else some out) []:=by
 have e:DJ V p n l d=(I7 V p).flatMap λc=>(List.range d).map λ(j:Nat)=>CQ V p l (Dx V l c (C7 V p) j) true:=by unfold DJ;rw[ZGA h]
 rw[e];show((I7 V p).flatMap λc=>(List.range d).map λ(j:Nat)=>CQ V p l (Dx V l c (C7 V p) j) true).foldlM BT []=_;rw[jF,XR];rfl
theorem SL.spec{p:List O}{N V:Nat}(hN:pieceN p (N:Int))(hV:V<N)(e:Int)(divs:List Part){Q:List (List O)×Int→Prop}(hQ:∀r,r=(if(Ac V p).2≠0 then([],3)else if(Ce V p (Ac V p).1).2≠0 then([],3)else GN (DJ V p (N-1) (Ac V p).1 (Ce V p (Ac V p).1).1.toNat))→Q r):SL ((N:Int)-1) (Ba V p) ((AK V p).map (Ax V)) e ((Ak V p).map (Ax V)) ((Aj V p).map (Ax V)) divs Q:=by
 have EH:=hN.1;have Nd:=hN.2.2.2;have LY:∀l,BP.fn (l,())=DE l:=λ_=>rfl;have hsu:∀a l b m,Bm.fn (a,l,b,m,())=BD a l b m:=λ_ _ _ _=>rfl;have RE:∀l k,DV.fn (l,k,())=(l.1,l.2+k):=λ_ _=>rfl;unfold SL;have ZBh:(AK V p).length≤400:=ZGd (ZGf _ _) EH;simp only[ZGM,LY,hsu,RE];have Xp:((N:Int)-1).toNat=N-1:=by omega
 simp only[Xp];refine Lp.flt ((AK V p).map (Ax V)) CL [] (λ_=>true) (λjq=>AR jq.2.2.1) (by rw[ZGM];omega) (λi t R hi hi' hf Dv h1 h2=>?_) λR _=>?_;·rw[ZGM]at hi hi';have hm:=AV (d:=U) hi;have hg:((AK V p).map (Ax V)).getD i CL=Ax V ((AK V p).getD i U):=Ox hi;rw[hg]at h1;simp only[ZGB hi',ZGD,ZGC,hg];have hb:=Pj hN hV (Ck.1 hm).1;obtain⟨q,hq⟩:∃q,Ax V ((AK V p).getD i U)=q:=⟨_,rfl⟩;simp only[hq,ZGS,ZGu]at hb h1 Dv⊢;obtain⟨_,Nn,_,_⟩:=hb;exact⟨⟨by omega,hi'⟩,hi,⟨by omega,by omega⟩,⟨by simp only[ZGO];omega,by simp only[ZGO];omega⟩,hf,h1 trivial⟩
 have hall:((BU CL ((AK V p).map (Ax V))).filter λ_=>true).map (λjq=>AR jq.2.2.1)=(AK V p).map λc=>AR (Z V c):=by rw[P3 CL ((AK V p).map (Ax V)) (λ_=>true) λq=>AR q.2.1,List.filter_eq_self.2 λ_ _=>rfl,ZHP];rfl
 simp only[ZGH,ZGQ,ZF9,ZG8,ZGM,hall];have hL:DE ((AK V p).map λc=>AR (Z V c))=Ac V p:=rfl;simp only[hL];refine⟨λx hx=>?_,?_⟩;·obtain⟨c,hc,rfl⟩:=List.mem_map.1 hx;have :=M5 (E7 (hN.c (Ck.1 hc).1).1 V);omega
 have Ql:((3:Int)!=(0:Int))=true:=rfl;have NP:((0:Int)!=(0:Int))=false:=rfl;by_cases CW:(Ac V p).2=0;rotate_left;·rw[show((Ac V p).2 !=0)=true by simpa using CW,ZGC];refine⟨λh=>⟨h,trivial⟩,λh=>by rw[h];rfl,hQ _ ?_⟩;rw[ZGE CW]
 rw[show((Ac V p).2 !=0)=false by simpa using CW,ZF9];rw[ZGA (by simpa using CW)]at hQ;obtain⟨_,EJ,T8⟩:=Mb CW;have JT:∀c∈AK V p,1≤Ad V (Ac V p).1 c∧Ad V (Ac V p).1 c≤512:=λc hc=>⟨(KV CW hc).2.1,(KV CW hc).2.2.1⟩;have Yx:∀c∈AK V p,Ph (N-1) (EG V (Ac V p).1 c):=λc hc=>sF hN hV CW hc;have Tp:=λ(w:AN)(all:Bool)=>xE hN CW ((N:Int)-1) e ((Ak V p).map (Ax V)) ((Aj V p).map (Ax V)) divs w all;have To:=λ(w:AN)(hw:Hk w∧w.1.length=N-1)(all:Bool)=>xD hN hV CW ((N:Int)-1) e divs hw all;have hgood:=cC hN (v:=V) (by omega) CW (d:=(Ce V p (Ac V p).1).1.toNat);have UP:∀w,F1 536871424 (N-1) w→∀all,KY (N-1) (CQ V p (Ac V p).1 w all):=λw hw all=>bT hN (v:=V) (by omega) CW (by simpa using hw) all;have mB:∀c∈AK V p,∀(low:Bool)(j:Nat),j≤512→F1 536871424 (N-1) (Dx V (Ac V p).1 c low j):=λc hc low j hj=>by have :=Zj (low:=low) (hN.c (Ck.1 hc).1) (v:=V) (by omega) (JT c hc) hj;simpa using this
 have mS:∀c∈AK V p,F1 536870912 (N-1) (Dp V (Ac V p).1 c):=λc hc=>by have :=SJ (hN.c (Ck.1 hc).1) (v:=V) (by omega) (JT c hc);simpa using this
 obtain⟨l,hl⟩:∃l,(Ac V p).1=l:=⟨_,rfl⟩;simp only[hl]at EJ T8 JT hQ Yx Tp To hgood UP mB mS⊢;have Y2:(AK V p).map (Ax V)=(List.range (AK V p).length).map λj=>if j<0 then EG V l ((AK V p).getD j U)else Ax V ((AK V p).getD j U):=by rw[←pL U (AK V p) (Ax V)];apply ZHA;intro j _;rw[ZGA (by omega)]
 rw[Y2];refine Lp.iter (AK V p).length (λi z=>z=((i:Int),l::(((AK V p).take i).filter λc=>decide (c.1=2)).map λc=>c.2.1*Ad V l c,(List.range (AK V p).length).map λj=>if j<i then EG V l ((AK V p).getD j U)else Ax V ((AK V p).getD j U))) (by simp) ?_;rintro i z hle rfl R hR;by_cases hi:i<(AK V p).length
 ·have hi':(i:Int)<((AK V p).length:Int):=by omega
  have hm:=AV (d:=U) hi;have hR':=hR hi _ rfl;rw[H7 (d:=U) hi,ZG9,ZGp]at hR';simp only[ZGB hi',ZGD,ZGC,ZGM,ZG4,Zh hi,ZGA (Nat.lt_irrefl i)];have Gw:=ZCe (n:=(AK V p).length) (j:=i) (f:=λj=>if j<i then EG V l ((AK V p).getD j U)else Ax V ((AK V p).getD j U)) (g:=λj=>if j<i+1 then EG V l ((AK V p).getD j U)else Ax V ((AK V p).getD j U)) λj hj=>by
   by_cases h:j<i;·rw[ZGE h,ZGE (by omega)]
   ·rw[ZGA h,ZGA (by omega)]
  simp only[ZGE (ZIq i)]at Gw;obtain⟨c,hq⟩:∃c,(AK V p).getD i U=c:=⟨_,rfl⟩;simp only[hq]at hm hR' Gw⊢;have By:=Ck.1 hm;have Ej:=hN.c By.1;obtain⟨f1,f2⟩:=JT c hm;obtain⟨mR,hsa,hsL,hsk⟩:=Yx c hm;have ZF2:-1048576≤c.2.1*Ad V l c∧c.2.1*Ad V l c≤1048576:=mR;have ZF3:-1048576≤Z V c*Ad V l c∧Z V c*Ad V l c≤1048576:=hsa;have JP:=E7 Ej.1 V;have hrb:=KL Ej (v:=V) (by omega);have JO:Max.max (Z V c) (-Z V c)≠(0:Int):=by have :=By.2;omega
  have hfe:l.tdiv (Max.max (Z V c) (-Z V c))=Ad V l c:=rfl;have PQ:(Ax V c).2.1=Z V c:=rfl;have Em:(Ax V c).2.2=AI V c:=rfl;have Ld:(Ax V c).1=c:=rfl;have hsc:((c.1,( c.2.1*Ad V l c,(([]:List Int),(0:Int)))),( Z V c*Ad V l c,BD (Ad V l c) (AI V c) 0 (AI V c)))=EG V l c:=rfl;simp only[PQ,Em,Ld,hfe,hsc,Gw];have hdl:(((AK V p).take i).filter λc=>decide (c.1=2)).length≤i:=ZGd (ZGf _ _) (by rw[ZGP];omega);refine⟨⟨by omega,hi'⟩,hi,⟨by omega,by omega⟩,⟨JO,⟨by omega,by omega⟩⟩,⟨by omega,by omega⟩,⟨by omega,by omega⟩,⟨by show-1048576≤Ad V l c∧Ad V l c≤1048576;omega,hrb.small (by omega) (by omega),by show(-1048576:Int)≤0∧(0:Int)≤1048576;omega,hrb.small (by omega) (by omega),rfl⟩,⟨by omega,hi'⟩,hi,?_⟩;by_cases h2:c.1=2;·rw[show(c.1==2)=true by simpa using h2,ZGC];rw[ZHJ (by simpa using h2)]at hR';exact⟨⟨by omega,by omega⟩,⟨by simp only[ZGL,ZGS,ZGM];omega,by simp only[ZGL,ZGS,ZGM];omega⟩,⟨by omega,by omega⟩,hR'⟩
  ·rw[show(c.1==2)=false by simpa using h2,ZF9];rw[ZHI (by simpa using h2),ZI0,ZIA,ZGZ]at hR';exact⟨⟨by omega,by omega⟩,hR'⟩
 have :i=(AK V p).length:=by omega
 subst this;have ZBG:((List.range (AK V p).length).map λj=>if j<(AK V p).length then EG V l ((AK V p).getD j U)else Ax V ((AK V p).getD j U))=(AK V p).map (EG V l):=by rw[←pL U (AK V p) (EG V l)];apply ZHA;intro j hj;rw[ZGE (List.mem_range.1 hj)]
 simp only[ZGH,ZGQ,ZF9,ZGN,ZBG,ZGM];have Iv:DE (l::((AK V p).filter λc=>decide (c.1=2)).map λc=>c.2.1*Ad V l c)=Ce V p l:=rfl;simp only[Iv];refine⟨λx hx=>?_,?_⟩
 ·rcases List.mem_cons.1 hx with rfl|hx;·omega
  ·obtain⟨c,hc,rfl⟩:=List.mem_map.1 hx;obtain⟨hc,_⟩:=List.mem_filter.1 hc;have mR:-1048576≤c.2.1*Ad V l c∧c.2.1*Ad V l c≤1048576:=(Yx c hc).1;omega
 by_cases hd0:(Ce V p l).2=0;rotate_left;·rw[show((Ce V p l).2 !=0)=true by simpa using hd0,ZGC];refine⟨λh=>⟨h,trivial⟩,λh=>by rw[h];rfl,hQ _ ?_⟩;rw[ZGE hd0]
 rw[show((Ce V p l).2 !=0)=false by simpa using hd0,ZF9];rw[ZGA (by simpa using hd0)]at hQ;obtain⟨hd1,Tt,_,_⟩:=Uh hd0;obtain⟨d,hd⟩:∃d:Nat,(Ce V p l).1=(d:Int):=⟨(Ce V p l).1.toNat,by omega⟩;simp only[hd,ZGD]at hd1 Tt hQ hgood⊢;refine⟨λh=>⟨h,trivial⟩,λh=>⟨h,trivial⟩,λh=>⟨h,trivial⟩,λh=>by rw[h];rfl,?_⟩;have UD:∀L,GN L=match Bg L with|none=>([],3)|some out=>(out,0):=λ_=>rfl;have LW:Bg (DJ V p (N-1) l d)=none→Q ([],3):=λh=>hQ _ (by rw[UD,h]);have IG:∀out,Bg (DJ V p (N-1) l d)=some out→Q (out,0):=λout h=>hQ _ (by rw[UD,h]);by_cases Ei:Ak V p=[]∨Aj V p=[]
 ·have hc:(((Ak V p).length:Int)==0||((Aj V p).length:Int)==0)=true:=by rcases Ei with h|h<;>simp[h]
  rw[hc,ZGC];have hT:DJ V p (N-1) l d=(List.range d).map λ(j:Nat)=>CQ V p l (List.replicate (N-1) 0,(j:Int)) false:=by unfold DJ;rw[ZGE Ei]
  rw[hT]at LW IG;have hlen:((List.range d).map λ(j:Nat)=>CQ V p l (List.replicate (N-1) 0,(j:Int)) false).length=d:=by simp
  refine Lp.tid ((List.range d).map λ(j:Nat)=>CQ V p l (List.replicate (N-1) 0,(j:Int)) false) [] _ F7.nil (by simp) (by omega) (λi out m R hi hi' hf hk C2 h1 h2 h3=>?_) λout m R ht hk C2=>?_
  ·rw[hlen]at hi hi';have hnb:=U0 (n:=N-1) (j:=i) (by omega);rw[Zh hi]at h1 h2 h3;simp only[ZGB hi',ZGC,Tp];refine⟨⟨by omega,by omega,by omega,by omega⟩,To (List.replicate (N-1) 0,(i:Int)) ⟨hnb.small (by omega) (by omega),hnb.1⟩ false,OM (UP (List.replicate (N-1) 0,(i:Int)) hnb false).D.1 hk C2 (λh4 hn=>?_) (λhs=>⟨hf,h1 hs⟩) (λhn=>?_) λhs=>⟨hf,h2 hs⟩⟩;·simp only[NP,AD.fn,h4,Ql,ZHo,ZGC];exact⟨λh=>⟨h,trivial⟩,λh=>rfl,LW (h3 hn)⟩
   ·exact⟨λh=>⟨h,trivial⟩,λh=>by rw[h];rfl,LW (h3 hn)⟩
  ·rw[hlen];simp only[ZGH,ZGQ,ZF9];exact⟨λh=>⟨h,trivial⟩,λh=>by rw[h];rfl,IG out ht⟩
 ·have hc:(((Ak V p).length:Int)==0||((Aj V p).length:Int)==0)=false:=by simp only[ZGx]at Ei;have h1:(Ak V p).length≠0:=λh=>Ei.1 (ZGY h);have h2:(Aj V p).length≠0:=λh=>Ei.2 (ZGY h);simp;omega
  rw[hc,ZF9];rw[ZEu Ei]at LW IG;have Yc:decide (((Ak V p).length:Int)≤((Aj V p).length:Int))=C7 V p:=by
   unfold C7;by_cases h:(Ak V p).length≤(Aj V p).length;·rw[ZGB h,ZGB (by omega)]
   ·rw[ZGF h,ZGF (by omega)]
  simp only[Yc];obtain⟨F,hF⟩:∃F:List (List O)→O→Option (List (List O)),F=λout c=>if decide (c.1≠2∧decide (0<Z V c)=C7 V p)=true then((List.range d).map λ(j:Nat)=>CQ V p l (Dx V l c (C7 V p) j) true).foldlM BT out else some out:=⟨_,rfl⟩;rw[←hF]at LW IG;refine Lp.iter (AK V p).length (λi(z:Int×List (List O)×(ByteArray→Option Bool))=>z.1=(i:Int)∧((AK V p).take i).foldlM F []=some z.2.1∧F7 z.2.1 z.2.2∧z.2.1.length≤400) ⟨rfl,rfl,F7.nil,by simp⟩ ?_;rintro i⟨y,out,m⟩hle⟨hy,ht,hk,C2⟩R hR;simp only at hy ht hk C2;subst hy;by_cases hi:i<(AK V p).length
  ·have hi':(i:Int)<((AK V p).length:Int):=by omega
   have hm:=AV (d:=U) hi;have hR':=hR hi;have hsn:((AK V p).take (i+1)).foldlM F []=F out ((AK V p).getD i U):=KW ht hi;have Gs:F out ((AK V p).getD i U)=none→(AK V p).foldlM F []=none:=λh=>NM ht hi h;have hg:((AK V p).map (EG V l)).getD i CL=EG V l ((AK V p).getD i U):=Ox hi;simp only[ZGB hi',ZGD,ZGC,hg];obtain⟨c,hq⟩:∃c,(AK V p).getD i U=c:=⟨_,rfl⟩;simp only[hq]at hm hsn Gs⊢;obtain⟨f1,f2⟩:=JT c hm;have By:=Ck.1 hm;have MF:F out c=if decide (c.1≠2∧decide (0<Z V c)=C7 V p)=true then((List.range d).map λ(j:Nat)=>CQ V p l (Dx V l c (C7 V p) j) true).foldlM BT out else some out:=by rw[hF]
   have hk1:(EG V l c).1.1=c.1:=rfl;have JO:decide ((0:Int)<(EG V l c).2.1)=decide (0<Z V c):=by
    have :(EG V l c).2.1=Z V c*Ad V l c:=rfl;rw[this];by_cases h:0<Z V c;·rw[ZGB h,ZGB ((pV f1).2 h)]
    ·rw[ZGF h,ZGF λh'=>h ((pV f1).1 h')]
   simp only[hk1,JO,VL];refine⟨⟨by omega,hi'⟩,λh=>⟨h,trivial⟩,λh=>⟨h,trivial⟩,λh=>⟨h,h,trivial⟩,λh=>by rw[h];rfl,?_⟩;have GC:( c.1==2||decide (0<Z V c)!=C7 V p)=!decide (c.1≠2∧decide (0<Z V c)=C7 V p):=by
    by_cases h2:c.1=2;·simp[h2]
    ·cases decide (0<Z V c)<;>cases C7 V p<;>simp[h2]
   rw[GC];cases KD:decide (c.1≠2∧decide (0<Z V c)=C7 V p)with|false=>rw[KD,ZGA (by simp)]at MF;simp only[ZGz,ZGC];exact⟨⟨by omega,by omega⟩,hR' _ ⟨rfl,by rw[hsn,MF],hk,C2⟩⟩|true=>
    rw[KD,ZGE rfl]at MF;simp only[ZGq,ZF9];have hlen:((List.range d).map λ(j:Nat)=>CQ V p l (Dx V l c (C7 V p) j) true).length=d:=by simp
    have hscl:=mS c hm;have ZBw:BD (-1) (Dp V l c) 0 (Dp V l c)=((Dp V l c).1.map λn=>-1*n,-1*(Dp V l c).2):=N2 _ _;simp only[ZBw];refine Lp.tid ((List.range d).map λ(j:Nat)=>CQ V p l (Dx V l c (C7 V p) j) true) out m hk C2 (by omega) (λj out2 m2 R2 hj hj' hf hk2 UF h1 h2 h3=>?_) λout2 m2 R2 HN hk2 UF=>?_
    ·rw[hlen]at hj hj';have hnb:=mB c hm (C7 V p) j (by omega);rw[Zh hj]at h1 h2 h3;simp only[ZGB hj',ZGC];have RM:Hk ((Dp V l c).1.map λn=>-1*n,-1*(Dp V l c).2):=by have h:=Zj (low:=true) (j:=0) (hN.c By.1) (v:=V) (l:=l) (by omega) (JT c hm) (by omega);have h':=h.small (by omega) (by omega);unfold Dx at h';simpa using h'
     refine⟨⟨by show(-1048576:Int)≤-1∧(-1:Int)≤1048576;omega,hscl.small (by omega) (by omega),by show(-1048576:Int)≤0∧(0:Int)≤1048576;omega,hscl.small (by omega) (by omega),rfl⟩,⟨RM,by show-1048576≤(j:Int);omega,by show(j:Int)≤1048576;omega⟩,?_⟩;cases DM:C7 V p with
     |false=>
      rw[DM]at hnb h1 h2 h3;have hw:((Dp V l c).1,(Dp V l c).2+-(j:Int))=Dx V l c false j:=rfl;simp only[ZGz,ZGC,hw,Tp];refine⟨⟨by omega,by omega⟩,⟨hscl.small (by omega) (by omega),by show-1048576≤-(j:Int);omega,by show-(j:Int)≤1048576;omega⟩,To _ ⟨hnb.small (by omega) (by omega),hnb.1⟩ true,OM (UP _ hnb true).D.1 hk2 UF (λh4 hn=>?_) (λhs=>⟨hf,h1 hs⟩) (λhn=>?_) λhs=>⟨hf,h2 hs⟩⟩;·simp only[NP,AD.fn,h4,Ql,ZHo,ZGC];exact⟨λh=>⟨h,trivial⟩,λh=>rfl,LW (Gs (by rw[MF,DM];exact h3 hn))⟩
      ·exact⟨λh=>⟨h,trivial⟩,λh=>by rw[h];rfl,LW (Gs (by rw[MF,DM];exact h3 hn))⟩|true=>
      rw[DM]at hnb h1 h2 h3;have hw:((Dp V l c).1.map λn=>-1*n,-1*(Dp V l c).2+(j:Int))=Dx V l c true j:=rfl;simp only[ZGq,ZF9,hw,Tp];refine⟨To _ ⟨hnb.small (by omega) (by omega),hnb.1⟩ true,OM (UP _ hnb true).D.1 hk2 UF (λh4 hn=>?_) (λhs=>⟨hf,h1 hs⟩) (λhn=>?_) λhs=>⟨hf,h2 hs⟩⟩;·simp only[NP,AD.fn,h4,Ql,ZHo,ZGC];exact⟨λh=>⟨h,trivial⟩,λh=>rfl,LW (Gs (by rw[MF,DM];exact h3 hn))⟩
      ·exact⟨λh=>⟨h,trivial⟩,λh=>by rw[h];rfl,LW (Gs (by rw[MF,DM];exact h3 hn))⟩
    ·rw[hlen];simp only[ZGH,ZGQ,ZF9];exact⟨⟨by omega,by omega⟩,hR' _ ⟨rfl,by rw[hsn,MF];exact HN,hk2,UF⟩⟩
  ·have :i=(AK V p).length:=by omega
   subst this;rw[ZGN]at ht;simp only[ZGH,ZGQ,ZF9];exact⟨λh=>⟨h,trivial⟩,λh=>by rw[h];rfl,IG out ht⟩
end
theorem rO{p q:List O}(h:∀x,x∈p↔x∈q):CZ p=CZ q:=by
 unfold CZ;rw[ZHg];simp only[ZH8,ZGt];constructor;·rintro⟨r,⟨c,hc,rfl⟩,hr⟩;exact⟨_,⟨c,(h c).1 hc,rfl⟩,hr⟩
 ·rintro⟨r,⟨c,hc,rfl⟩,hr⟩;exact⟨_,⟨c,(h c).2 hc,rfl⟩,hr⟩
theorem aH{p q:List O}(h:∀x,x∈p↔x∈q)(x:O):x∈Aq p↔x∈Aq q:=by
 unfold Aq;simp only[ZGt,ZHx];constructor;·rintro⟨r,⟨⟨c,hc,rfl⟩,hr⟩,rfl⟩;exact⟨_,⟨⟨c,(h c).1 hc,rfl⟩,hr⟩,rfl⟩
 ·rintro⟨r,⟨⟨c,hc,rfl⟩,hr⟩,rfl⟩;exact⟨_,⟨⟨c,(h c).2 hc,rfl⟩,hr⟩,rfl⟩
theorem vY{p q:List O}(h:∀x,x∈p↔x∈q):Lm p=Lm q:=by
 funext x;apply propext;unfold Lm;constructor;·rintro⟨h1,h2⟩;exact⟨(h x).1 h1,λh0 d hd=>h2 h0 d ((h d).2 hd)⟩
 ·rintro⟨h1,h2⟩;exact⟨(h x).2 h1,λh0 d hd=>h2 h0 d ((h d).1 hd)⟩
theorem ZEs{p q:List O}{n:Nat}(hp:BN p∧A3 p n)(hq:BN q∧A3 q n)(h:∀x,x∈p↔x∈q):Af p=Af q:=by
 by_cases hv:CZ p=true;·rw[JA,JA,←rO h,hv];rfl
 ·have hv:CZ p=false:=by simpa using hv
  have CA:CZ q=false:=by rw[←rO h];exact hv
  obtain⟨a1,a2⟩:=Pz hp.1 hp.2 hv;obtain⟨b1,b2⟩:=Pz hq.1 hq.2 CA;have hL:Lm (Aq q)=Lm (Aq p):=(vY (aH h)).symm;rw[hL]at b1 b2;by_cases hV:Ii (Lm (Aq p))∨Hm (MM (Lm (Aq p)));·rw[a1 hV,b1 hV]
  ·obtain⟨m,hm⟩:=bY hp.1 hp.2 hv (λh=>hV (.inl h)) λh=>hV (.inr h);rw[a2 (λh=>hV (.inl h)) (λh=>hV (.inr h)) m hm,b2 (λh=>hV (.inl h)) (λh=>hV (.inr h)) m hm];have Ka:(Aq p).any (λc=>!AG c)=(Aq q).any λc=>!AG c:=by
    rw[ZHg];simp only[ZH8];constructor;·rintro⟨c,hc,h2⟩;exact⟨c,(aH h c).1 hc,h2⟩
    ·rintro⟨c,hc,h2⟩;exact⟨c,(aH h c).2 hc,h2⟩
   rw[Ka]
theorem XJ{α:Type}{d:α}:∀{l:List α}{k:Nat},k<l.length→l=l.take k++l.getD k d::l.drop (k+1)|[],k,h=>by simp at h|x::l,0,_=>by simp|x::l,k+1,h=>by simp only[ZIw,ZIu,ZIJ,ZHb];congr 1;exact XJ (by simpa using h)
theorem uK{α:Type}(d:α)(l:List α)(k:Nat)(hk:k<l.length):((BU d l).filter λix=>decide (ix.1≠k)).map (·.2)=l.take k++l.drop (k+1):=by
 have hr:List.range l.length=List.range k++k::(List.range (l.length-(k+1))).map λj=>j+(k+1):=by obtain⟨r,hr⟩:∃r,l.length-(k+1)=r:=⟨_,rfl⟩;rw[hr,show l.length=k+(1+r)by omega,List.range_add,List.range_add,ZGp,ZHP];congr 1;show[k+0]++_=_;rw[ZJE];congr 1;apply ZHA;intro j _;show k+(1+j)=j+(k+1);omega
 unfold BU;rw[hr,ZGp,ZGi,ZG9,ZGp,ZHI (by simp)];congr 1
 ·rw[List.filter_eq_self.2 ?_,ZHP];·apply ZHR (by simp;omega);intro i h1 h2;simp only[ZGM,ZG4]at h1;simp only[ZH9,ZHz,Function.comp,List.getElem_take];exact A6 (by omega)
  ·intro x hx;simp only[ZGt,ZH5]at hx;obtain⟨i,hi,rfl⟩:=hx;simp;omega
 ·rw[List.filter_eq_self.2 ?_,ZHP,ZHP];·apply ZHR (by simp);intro i h1 h2;simp only[ZGM,ZG4]at h1;simp only[ZH9,ZHz,Function.comp,List.getElem_drop];rw[A6 (by omega)];congr 1;omega
  ·intro x hx;simp only[ZGt,ZH5]at hx;obtain⟨j,⟨i,hi,rfl⟩,rfl⟩:=hx;simp;omega
theorem qX(v:Nat)(a b:List O):AK v (a++b)=AK v a++AK v b:=ZG9 _ _
theorem Z3{v:Nat}{p:List O}{j:Nat}(hj:j<p.length)(h0:Z v (p.getD j U)≠0):(AK v (p.take j)).length<(AK v p).length∧(AK v p).getD (AK v (p.take j)).length U=p.getD j U∧(AK v p).take (AK v (p.take j)).length++(AK v p).drop ((AK v (p.take j)).length+1)=AK v (p.take j++p.drop (j+1)):=by
 have e:AK v p=AK v (p.take j)++p.getD j U::AK v (p.drop (j+1)):=by have :=ZGr (AK v) (XJ (d:=U) hj);rw[this,qX];congr 1;show List.filter _ (p.getD j U::p.drop (j+1))=_;rw[ZHJ (by simpa using h0)];rfl
 rw[e];refine⟨by simp,?_,?_⟩;·rw[ZGG,ZG5 (ZGR _)];simp
 ·rw[qX];congr 1;·simp
  ·rw[List.drop_append];simp
def Fv(v:Nat)(p:List O)(i:Nat):Int:=if Cg v p i<0 then-1 else((AK v (p.take (Cg v p i).toNat)).length:Int)
theorem ZDO(v:Nat)(e c:O):Mo (Ax v e) (Ax v c)=Fg v e c:=by unfold Mo Fg Ax;simp only;rw[ZIK (AR (Z v e)) c.2.1,ZIK _ (Z v c)]
theorem ZED{p:List O}{N V:Nat}(hN:pieceN p (N:Int))(hV:V<N){j:Nat}(hj:j<p.length)(h0:Z V (p.getD j U)≠0)(n:Int)(lows ups divs:List Part):BN (Ms (n,Ba V p,(AK V p).map (Ax V),((AK V (p.take j)).length:Int),lows,ups,divs))∧Af (Ms (n,Ba V p,(AK V p).map (Ax V),((AK V (p.take j)).length:Int),lows,ups,divs))=Af (H6 V p j):=by
 obtain⟨k1,k2,k3⟩:=Z3 hj h0;obtain⟨e,he⟩:∃e,p.getD j U=e:=⟨_,rfl⟩;obtain⟨tail,Y3⟩:∃tail:List O,tail=if 1<AR (Z V e)then[(2,AR (Z V e),AI V e)]else[]:=⟨_,rfl⟩;have hq:Ms (n,Ba V p,(AK V p).map (Ax V),((AK V (p.take j)).length:Int),lows,ups,divs)=Ba V p++(AK V (p.take j++p.drop (j+1))).map (Fg V e)++tail:=by
  unfold Ms;simp only[ZGD];have hg:((AK V p).map (Ax V)).getD (AK V (p.take j)).length CL=Ax V e:=by rw[Ox (d:=U) k1,k2,he]
  rw[hg,Y3];congr 2;have hx:((BU CL ((AK V p).map (Ax V))).filter λjq=>decide ((jq.1:Int)≠((AK V (p.take j)).length:Int)))=(BU CL ((AK V p).map (Ax V))).filter λjq=>decide (jq.1≠(AK V (p.take j)).length):=by apply List.filter_congr;intro x _;exact decide_eq_decide.2 (by omega)
  have hm:((BU CL ((AK V p).map (Ax V))).filter λjq=>decide ((jq.1:Int)≠((AK V (p.take j)).length:Int))).map (λjq=>Mo (Ax V e) jq.2)=(((BU CL ((AK V p).map (Ax V))).filter λjq=>decide (jq.1≠(AK V (p.take j)).length)).map (·.2)).map (Mo (Ax V e)):=by rw[hx,ZHP];rfl
  rw[hm,uK CL _ _ (by rw[ZGM];exact k1),←List.map_take,←ZKo,←ZGp,k3,ZHP];apply ZHA;intro c _;exact ZDO V e c
 have hp:H6 V p j=(p.take j++p.drop (j+1)).map (λc=>if Z V c=0 then GR V c else Fg V e c)++tail:=by unfold H6;rw[he,Y3];congr 1;rw[←uK U p j hj,ZHP];rfl
 have A4:∀x,x∈Ba V p++(AK V (p.take j++p.drop (j+1))).map (Fg V e)++tail↔x∈(p.take j++p.drop (j+1)).map (λc=>if Z V c=0 then GR V c else Fg V e c)++tail:=by
  intro x;rw[ZGa,ZGa,ZGa];have PE:x∈Ba V p↔∃c∈p.take j++p.drop (j+1),Z V c=0∧GR V c=x:=by
   unfold Ba;simp only[ZGt,ZHx,ZG0];constructor
   ·rintro⟨c,⟨hc,Be⟩,rfl⟩;refine⟨c,?_,Be,rfl⟩;rw[XJ (d:=U) hj]at hc;rcases List.mem_append.1 hc with hc|hc;·exact ZHY _ hc
    ·rcases List.mem_cons.1 hc with rfl|hc;·exact absurd Be h0
     ·exact ZHU _ hc
   ·rintro⟨c,hc,Be,rfl⟩;refine⟨c,⟨?_,Be⟩,rfl⟩;rcases List.mem_append.1 hc with hc|hc;·exact ZGl hc
    ·exact ZKj hc
  have ZBY:x∈(p.take j++p.drop (j+1)).map (λc=>if Z V c=0 then GR V c else Fg V e c)↔(∃c∈p.take j++p.drop (j+1),Z V c=0∧GR V c=x)∨x∈(AK V (p.take j++p.drop (j+1))).map (Fg V e):=by
   simp only[ZGt,Ck];constructor
   ·rintro⟨c,hc,rfl⟩;by_cases Be:Z V c=0;·rw[ZGE Be];exact .inl ⟨c,hc,Be,rfl⟩
    ·rw[ZGA Be];exact .inr ⟨c,⟨hc,Be⟩,rfl⟩
   ·rintro(⟨c,hc,Be,rfl⟩|⟨c,⟨hc,Be⟩,rfl⟩);·exact⟨c,hc,ZGE Be⟩
    ·exact⟨c,hc,ZGA Be⟩
  rw[PE,ZBY]
 have hgood:=bI hN (v:=V) (by omega) hj h0;have hgq:KY (N-1) (Ms (n,Ba V p,(AK V p).map (Ax V),((AK V (p.take j)).length:Int),lows,ups,divs)):=by
  rw[hq];refine⟨?_,λc hc=>?_⟩
  ·have h1:=LO (v:=V) (p:=p);have h2:(AK V (p.take j++p.drop (j+1))).length≤(p.take j++p.drop (j+1)).length:=ZGf _ _;have h3:tail.length≤1:=by rw[Y3];split<;>simp
   have h4:=hN.1;simp only[ZGI,ZGM,ZGP,ZG1]at h2⊢;omega
  ·have :=(A4 c).1 hc;rw[←hp]at this;exact hgood.2 c this
 refine⟨hgq.D.1,ZEs hgq.D hgood.D λx=>?_⟩;rw[hq,hp];exact A4 x
theorem yZ(C:List Int)(V:Nat):C.take V++C.drop ((V:Int)+1).toNat=Az C V:=by rw[show((V:Int)+1).toNat=V+1 by omega];rfl
theorem ZEo{q q':List O}(h:Af q=Af q'):Bg [q]=Bg [q']:=by
 show[q].foldlM BT []=[q'].foldlM BT [];rw[ZGc,ZGc];have :BT [] q=BT [] q':=by unfold BT;rw[h]
 rw[this]
theorem Dt.spec(p:List O)(n v:Int)(hp:Dt.pre (p,n,v,())):Dt.wp p n v λr=>r=Dt.fn (p,n,v,()):=by
 obtain⟨hN,CY,Bk⟩:=hp;simp only at hN CY Bk;obtain⟨V,rfl⟩:∃V:Nat,v=(V:Int):=⟨v.toNat,by omega⟩;obtain⟨N,rfl⟩:∃N:Nat,n=(N:Int):=⟨n.toNat,by omega⟩;have EH:=hN.1;have Nd:=hN.2.2.2;have hV:V<N:=by omega
 have hfn:Dt.fn (p,(N:Int),(V:Int),())=BE p N V:=rfl;have KE:BE p N V=match Dq p N V with|none=>([],3)|some l=>GN l:=rfl;have UD:∀L,GN L=match Bg L with|none=>([],3)|some out=>(out,0):=λ_=>rfl;unfold Dt.wp;rw[hfn];dsimp only;refine⟨⟨by omega,by omega⟩,?_⟩;refine Lp.iter p.length (λi z=>z=((i:Int),(N:Int)-1,Fv V p i,Ba V (p.take i),(AK V (p.take i)).map (Ax V),(Cc V (p.take i)).map (Ax V),(Ak V (p.take i)).map (Ax V),(Aj V (p.take i)).map (Ax V))) (by simp[Fv,Cg,Ba,Cc,Ak,Aj,AK]) ?_;rintro i z hle rfl R hR;by_cases e:i<p.length
 ·have e':(i:Int)<(p.length:Int):=by omega
  have hm:=AV (d:=U) e;have hR':=hR e _ rfl;have hQ1:Fv V p (i+1)=if Z V (p.getD i U)≠0∧(p.getD i U).1=1∧(Cg V p i<0∨AR (Z V (p.getD i U))<AR (Z V (p.getD (Cg V p i).toNat U)))then((AK V (p.take i)).length:Int)else Fv V p i:=by
   unfold Fv;rw[XD];unfold JL;split;·rw[ZGA (by omega),ZGD]
   ·rfl
  rw[hQ1,H7 (d:=U) e,jH,qY,gK,pH,uF]at hR';simp only[ZGB e',ZGD,ZGC,yZ,ZGM];have hJ:=Oo V p i (by omega);have HI:0≤Cg V p i→Fv V p i=((AK V (p.take (Cg V p i).toNat)).length:Int)∧(AK V (p.take (Cg V p i).toNat)).length<(AK V (p.take i)).length∧((AK V (p.take i)).map (Ax V)).getD (Fv V p i).toNat CL=Ax V (p.getD (Cg V p i).toNat U):=λh0=>by
   rcases hJ with h|⟨_,h2,h3,h4⟩;·omega
   ·have IJ:(Cg V p i).toNat<(p.take i).length:=by rw[ZGP];omega
    have hg:(p.take i).getD (Cg V p i).toNat U=p.getD (Cg V p i).toNat U:=by rw[ZGG,ZGG,ZGg,ZGE (by omega)]
    have hk:=Z3 (v:=V) (p:=p.take i) IJ (by rw[hg];exact h3);rw[ZKb,Nat.min_eq_left (by omega),hg]at hk;have hq:Fv V p i=((AK V (p.take (Cg V p i).toNat)).length:Int):=by unfold Fv;rw[ZGA (by omega)]
    refine⟨hq,hk.1,?_⟩;rw[hq,ZGD,Ox (d:=U) hk.1,hk.2.1]
  have Cj:Fv V p i<0↔Cg V p i<0:=by
   unfold Fv;split;·omega
   ·omega
  obtain⟨c,hq⟩:∃c,p.getD i U=c:=⟨_,rfl⟩;simp only[hq]at hm hR'⊢;have Ej:=hN.c hm;have hlen:(V:Int)<(c.2.2.1.length:Int):=by have :=Ej.2;omega
  have D4:c.2.2.1.getD V 0=Z V c:=rfl;have UG:((c.1,(c.2.1,(Az c.2.2.1 V,c.2.2.2))):O)=GR V c:=rfl;have PQ:((c,(Z V c,(Az c.2.2.1 V,c.2.2.2))):Part)=Ax V c:=rfl;simp only[D4,UG,PQ];have JP:=E7 Ej.1 V;have Ci:AA IntKind.i64 ((i:Int)+1):=⟨by omega,by omega⟩;have l0:(AK V (p.take i)).length≤i:=LN i;have l2:(Cc V (p.take i)).length≤i:=LN i;have l3:(Ak V (p.take i)).length≤i:=LN i;have l4:(Aj V (p.take i)).length≤i:=LN i;have l1':(Ba V (p.take i)).length≤i:=by unfold Ba;rw[ZGM];exact LN i
  have hne:c.2.2.1≠([]:List Int):=λh=>by rw[h]at hlen;simp at hlen;omega
  refine⟨⟨by omega,e'⟩,by omega,⟨by omega,by omega⟩,⟨hne,by omega,by omega,by omega⟩,⟨by omega,hlen⟩,?_⟩;have obp:((AK V (p.take i)).length+List.length [Ax V c])*88≤140737488355328∧(AK V (p.take i)).length+List.length [Ax V c]≤9223372036854775807:=⟨by simp only[ZGO];omega,by simp only[ZGO];omega⟩;by_cases h0:Z V c=0;·rw[show(Z V c==0)=true by simpa using h0,ZGC];rw[ZGA λh=>h.1 h0,ZGE h0,ZGA (show¬Z V c≠0 from λh=>h h0),ZGA λh=>h.1 h0,ZGA λh=>h.1 h0,ZGA λh=>h.1 h0,ZGZ,ZGZ,ZGZ,ZGZ]at hR';exact⟨⟨by simp only[ZGO];omega,by simp only[ZGO];omega⟩,Ci,hR'⟩
  ·rw[show(Z V c==0)=false by simpa using h0,ZF9];rw[ZGA (show¬Z V c=0 from h0),ZGZ,ZGE (show Z V c≠0 from h0),ZGp,ZGi,ZIA]at hR';by_cases h1:c.1=1
   ·rw[show(c.1==1)=true by simpa using h1,ZGC];rw[ZGA (show¬(Z V c≠0∧c.1=2)from λh=>by omega),ZGA (show¬(Z V c≠0∧c.1≠1∧c.1≠2∧0<Z V c)from λh=>h.2.1 h1),ZGA (show¬(Z V c≠0∧c.1≠1∧c.1≠2∧¬0<Z V c)from λh=>h.2.1 h1),ZGZ,ZGZ,ZGZ]at hR';by_cases LP:Cg V p i<0;·have Xi:Fv V p i<0:=Cj.2 LP;simp only[ZGB Xi,ZGq,ZHp,ZGC];rw[ZGE ⟨h0,h1,.inl LP⟩]at hR';simp only[ZGh,false_implies,ZKn,ZIz];exact⟨obp,Ci,hR'⟩
    ·have Xi:¬Fv V p i<0:=λh=>LP (Cj.1 h);obtain⟨k1,k2,k3⟩:=HI (by omega);have T5:(Cg V p i).toNat<p.length:=by rcases hJ with h|h<;>omega
     have PL:=AV (d:=U) T5;obtain⟨ce,Iu⟩:∃ce,p.getD (Cg V p i).toNat U=ce:=⟨_,rfl⟩;simp only[Iu]at PL hR' k3;have ZFj:=E7 (hN.c PL).1 V;have ZBi:(Ax V ce).2.1=Z V ce:=rfl;simp only[k3,ZBi,ZGF Xi,ZGz,ZHh];have Co:AA IntKind.i64 (-Z V c):=⟨by omega,by omega⟩;have ZA7:AA IntKind.i64 (-Z V ce):=⟨by omega,by omega⟩;have kH:(0:Int)≤Fv V p i∧Fv V p i<((AK V (p.take i)).length:Int):=⟨by omega,by omega⟩;have Qn:(Fv V p i).toNat<(AK V (p.take i)).length:=by omega
     refine⟨λh=>⟨h,Co⟩,λh=>⟨h,h,trivial⟩,λh=>⟨h,trivial⟩,λh=>⟨h,trivial⟩,λh=>⟨h,h,kH⟩,λh=>⟨h,trivial⟩,λh=>⟨h,Qn⟩,λh=>⟨h,trivial⟩,λh=>⟨h,trivial⟩,λh=>⟨h,h,kH⟩,λh=>⟨h,trivial⟩,λh=>⟨h,Qn⟩,λh=>⟨h,ZA7⟩,λh=>⟨h,h,trivial⟩,λh=>⟨h,h,trivial⟩,λ_=>trivial,?_⟩;by_cases Ab:AR (Z V c)<AR (Z V ce);·have Nc:Max.max (Z V c) (-Z V c)<Max.max (Z V ce) (-Z V ce):=Ab;rw[ZGB Nc,ZGC];rw[ZGE ⟨h0,h1,.inr Ab⟩]at hR';exact⟨obp,Ci,hR'⟩
     ·have Nc:¬Max.max (Z V c) (-Z V c)<Max.max (Z V ce) (-Z V ce):=Ab;rw[ZGF Nc,ZF9];rw[ZGA λh=>h.2.2.elim LP Ab]at hR';exact⟨obp,Ci,hR'⟩
   ·rw[show(c.1==1)=false by simpa using h1,ZF9];rw[ZGA λh=>h1 h.2.1]at hR';by_cases h2:c.1=2;·rw[show(c.1==2)=true by simpa using h2,ZGC];rw[ZGE ⟨h0,h2⟩,ZGA λh=>h.2.2.1 h2,ZGA λh=>h.2.2.1 h2,ZGZ,ZGZ,ZGp,ZGi,ZIA]at hR';exact⟨⟨by simp only[ZGO];omega,by simp only[ZGO];omega⟩,obp,Ci,hR'⟩
    ·rw[show(c.1==2)=false by simpa using h2,ZF9];rw[ZGA (show¬(Z V c≠0∧c.1=2)from λh=>h2 h.2),ZGZ]at hR';by_cases AU:0<Z V c;·rw[ZGB AU,ZGC];rw[ZGE ⟨h0,h1,h2,AU⟩,ZGA λh=>h.2.2.2 AU,ZGZ,ZGp,ZGi,ZIA]at hR';exact⟨⟨by simp only[ZGO];omega,by simp only[ZGO];omega⟩,obp,Ci,hR'⟩
     ·rw[ZGF AU,ZF9];rw[ZGA λh=>AU h.2.2.2,ZGE ⟨h0,h1,h2,AU⟩,ZGZ,ZGp,ZGi,ZIA]at hR';exact⟨⟨by simp only[ZGO];omega,by simp only[ZGO];omega⟩,obp,Ci,hR'⟩
 have PI:i=p.length:=by omega
 subst PI;rw[ZGF (ZGH _),ZF9,ZGN];have hJ:=Oo V p p.length (ZGR _);have Xm:Cg V p p.length=Eh V p:=rfl;rw[Xm]at hJ;have kN:Fv V p p.length=if Eh V p<0 then-1 else((AK V (p.take (Eh V p).toNat)).length:Int):=rfl;have hle:∀f:O→Bool,(p.filter f).length≤400:=λf=>ZGd (ZGf _ _) EH;have kM:∀(n e:Int)(divs:List Part),Sm (N-1) (n,Ba V p,(AK V p).map (Ax V),e,(Ak V p).map (Ax V),(Aj V p).map (Ax V),divs):=λn e divs=>by
  refine⟨ZGd LO EH,⟨by show((AK V p).map _).length≤400;rw[ZGM];exact hle _,λq hq=>?_⟩,⟨by show((Ak V p).map _).length≤400;rw[ZGM];exact hle _,λq hq=>?_⟩,⟨by show((Aj V p).map _).length≤400;rw[ZGM];exact hle _,λq hq=>?_⟩⟩;·obtain⟨c,hc,rfl⟩:=List.mem_map.1 hq;exact Pj hN hV (Ck.1 hc).1
  ·obtain⟨c,hc,rfl⟩:=List.mem_map.1 hq;exact Pj hN hV (List.mem_filter.1 hc).1
  ·obtain⟨c,hc,rfl⟩:=List.mem_map.1 hq;exact Pj hN hV (List.mem_filter.1 hc).1
 have Ql:((3:Int)!=(0:Int))=true:=rfl;have NP:((0:Int)!=(0:Int))=false:=rfl;have one:∀(q q':List O),BN q→Af q=Af q'→Dq p N V=some [q']→Lp (σ:=Int×List (List O)×(ByteArray→Option Bool)) (λy6 R6=>let v13:=List.getD [q] (Int.toNat y6.1) ([]:List O);let v14:=A1.fn ((AD.fn (v13,())).1,());let v16:=[(AD.fn (v13,())).1];cond (decide (y6.1<((List.length [q]:Nat):Int))) (((0:Int)≤y6.1∧y6.1<((List.length [q]:Nat):Int))∧AD.pre (v13,())∧cond (((AD.fn (v13,())).2).2 !=(0:Int)) (((!(0:Int)!=(0:Int))=true→(!(0:Int)!=(0:Int))=true∧True)∧(((0:Int)!=(0:Int))=false→(!(0:Int)!=(0:Int))=true)∧cond ((0:Int)!=(0:Int)||((AD.fn (v13,())).2).2 !=(0:Int)) ((([]:List (List O)),(3:Int))=BE p N V) ((([]:List (List O)),(0:Int))=BE p N V)) (((!((AD.fn (v13,())).2).1)=true→(!((AD.fn (v13,())).2).1)=true∧A1.pre ((AD.fn (v13,())).1,()))∧((!((AD.fn (v13,())).2).1)=true→(!((AD.fn (v13,())).2).1)=true∧(!((AD.fn (v13,())).2).1)=true∧True)∧(((AD.fn (v13,())).2).1=false→(!((AD.fn (v13,())).2).1)=true)∧cond (((AD.fn (v13,())).2).1||Option.getD (y6.2.2 v14) false) (AA IntKind.i64 (y6.1+(1:Int))∧R6 ( y6.1+(1:Int),y6.2)) (A1.pre ((AD.fn (v13,())).1,())∧((List.length y6.2.1+List.length v16)*24≤140737488355328∧List.length y6.2.1+List.length v16≤9223372036854775807)∧cond (decide ((400:Int)<(( List.length (y6.2.1++v16):Nat):Int))) (( !(0:Int)!=(0:Int)=true→!(0:Int)!=(0:Int)=true∧True)∧(((0:Int)!=(0:Int))=false→(!(0:Int)!=(0:Int))=true)∧(([]:List (List O)),(3:Int))=BE p N V) (AA IntKind.i64 (y6.1+(1:Int))∧R6 ( y6.1+(1:Int),( y6.2.1++v16,Bu y6.2.2 v14 true)))))) (( !(0:Int)!=(0:Int)=true→!(0:Int)!=(0:Int)=true∧True)∧(((0:Int)!=(0:Int))=false→(!(0:Int)!=(0:Int))=true)∧(y6.2.1,(0:Int))=BE p N V)) ((0:Int),(([]:List (List O)),λ(a6:ByteArray)=>(none:Option Bool))):=by
  intro q q' hB ht hS;have HM:BE p N V=match Bg [q]with|none=>([],3)|some out=>(out,0):=by rw[KE,hS,ZEo ht];exact UD _
  refine Lp.tid [q] [] _ F7.nil (by simp) (by simp) (λi out m R hi hi' hf hk C2 h1 h2 h3=>?_) λout m R ht hk C2=>?_
  ·have hi0:i=0:=by simpa using hi
   subst hi0;have hg:List.getD [q] 0 []=q:=rfl;rw[hg]at h1 h2 h3;dsimp only;rw[ZGB hi',ZGC,ZGD,hg];refine⟨⟨by omega,hi'⟩,OM hB hk C2 (λh4 hn=>?_) (λhs=>⟨hf,h1 hs⟩) (λhn=>?_) λhs=>⟨hf,h2 hs⟩⟩;·have hn':Bg [q]=none:=h3 hn;simp only[NP,AD.fn,h4,Ql,ZHo,ZGC];exact⟨λh=>⟨h,trivial⟩,λh=>rfl,by rw[HM,hn']⟩
   ·have hn':Bg [q]=none:=h3 hn;exact⟨λh=>⟨h,trivial⟩,λh=>by rw[h];rfl,by rw[HM,hn']⟩
  ·have ht':Bg [q]=some out:=ht;dsimp only;rw[ZGF (ZGH _),ZF9];exact⟨λh=>⟨h,trivial⟩,λh=>by rw[h];rfl,by rw[HM,ht']⟩
 by_cases hE:0≤Eh V p
 ·rcases hJ with h|⟨h1,h2,h3,h4⟩;·omega
  ·have Xr:Fv V p p.length=((AK V (p.take (Eh V p).toNat)).length:Int):=by rw[kN,ZGA (by omega)]
   have T5:(Eh V p).toNat<p.length:=by omega
   obtain⟨k1,_,_⟩:=Z3 T5 h3;have hS:Dq p N V=some [H6 V p (Eh V p).toNat]:=by unfold Dq;rw[ZGE hE]
   rw[Xr,ZGB (show(0:Int)≤((AK V (p.take (Eh V p).toNat)).length:Int)by omega),ZGC];obtain⟨b1,b2⟩:=ZED hN hV T5 h3 ((N:Int)-1) ((Ak V p).map (Ax V)) ((Aj V p).map (Ax V)) ((Cc V p).map (Ax V));refine⟨⟨⟨N-1,kM _ _ _⟩,by show(0:Int)≤((AK V (p.take (Eh V p).toNat)).length:Int);omega,by show((AK V (p.take (Eh V p).toNat)).length:Int)<(((AK V p).map (Ax V)).length:Int);rw[ZGM];omega⟩,?_⟩;exact one _ _ b1 b2 hS
 ·have Xr:Fv V p p.length=-1:=by rw[kN,ZGE (by omega)]
  rw[Xr,ZGF (show¬(0:Int)≤-1 by omega),ZF9];have tried:¬(Cc V p=[]∧(Ak V p=[]∨Aj V p=[]))→Js V p=false→∀e,SL ((N:Int)-1) (Ba V p) ((AK V p).map (Ax V)) e ((Ak V p).map (Ax V)) ((Aj V p).map (Ax V)) ((Cc V p).map (Ax V)) λr=>r=BE p N V:=λhA hX e=>by
   refine SL.spec hN hV e _ λr hr=>?_;have hS:Dq p N V=if(Ac V p).2≠0 then none else if(Ce V p (Ac V p).1).2≠0 then none else some (DJ V p (N-1) (Ac V p).1 (Ce V p (Ac V p).1).1.toNat):=by unfold Dq;rw[ZGA hE,ZGA hA,ZGA (by rw[hX];simp)]
   rw[hr,KE,hS];split;·rfl
   ·split;·rfl
    ·rfl
  by_cases hD:Cc V p=[];rotate_left
  ·have hdl:(0:Int)<((((Cc V p).map (Ax V)).length:Nat):Int):=by rw[ZGM];have :(Cc V p).length≠0:=λh=>hD (ZGY h);omega
   rw[ZGB hdl,ZGC];refine tried (λh=>hD h.1) ?_ (-1);unfold Js;cases hh:Cc V p with|nil=>exact absurd hh hD|cons x l=>rfl
  have hdl:¬(0:Int)<((((Cc V p).map (Ax V)).length:Nat):Int):=by rw[hD];simp
  rw[ZGF hdl,ZF9];have ZBV:(Ak V p).length≤400:=hle _;have mZ:(Aj V p).length≤400:=hle _;refine Lp.iter (Ak V p).length (λi z=>z=(i:Int)∧∀a,a<i→∀b,b<(Aj V p).length→Z V ((Ak V p).getD a U)=1∨Z V ((Aj V p).getD b U)=-1) ⟨rfl,λa ha=>absurd ha (by omega)⟩ ?_;rintro i z hi⟨rfl,IG⟩R1 BC;dsimp only;by_cases e:i<(Ak V p).length
  ·have e':(i:Int)<((((Ak V p).map (Ax V)).length:Nat):Int):=by rw[ZGM];omega
   have Hu:((Ak V p).map (Ax V)).getD i CL=Ax V ((Ak V p).getD i U):=Ox e;rw[ZGB e',ZGC,ZGD,Hu];refine⟨⟨by omega,e'⟩,?_⟩;have NX:(Ax V ((Ak V p).getD i U)).2.1=Z V ((Ak V p).getD i U):=rfl;rw[NX];refine Lp.iter (Aj V p).length (λj z=>z=(j:Int)∧∀b,b<j→Z V ((Ak V p).getD i U)=1∨Z V ((Aj V p).getD b U)=-1) ⟨rfl,λa ha=>absurd ha (by omega)⟩ ?_;rintro j z hj⟨rfl,lC⟩R2 BJ;by_cases ej:j<(Aj V p).length
   ·have ej':(j:Int)<((((Aj V p).map (Ax V)).length:Nat):Int):=by rw[ZGM];omega
    have hgu:((Aj V p).map (Ax V)).getD j CL=Ax V ((Aj V p).getD j U):=Ox ej;have kY:(Ax V ((Aj V p).getD j U)).2.1=Z V ((Aj V p).getD j U):=rfl;rw[ZGB ej',ZGC,ZGD,hgu,kY];refine⟨⟨by omega,ej'⟩,λh=>⟨h,trivial⟩,λh=>⟨h,trivial⟩,λh=>h,?_⟩;by_cases hb:Z V ((Ak V p).getD i U)=1∨Z V ((Aj V p).getD j U)=-1
    ·have hc:(Z V ((Ak V p).getD i U)!=1&&Z V ((Aj V p).getD j U)!=-(1:Int))=false:=by rw[ZJb];exact hb.imp λh=>by rw[h];rfl λh=>by rw[h];rfl
     rw[hc,ZF9];refine⟨⟨by omega,by omega⟩,BJ ej _ ⟨rfl,λb hbj=>?_⟩⟩;by_cases Xu:b=j;·subst Xu;exact hb
     ·exact lC b (by omega)
    ·have hc:(Z V ((Ak V p).getD i U)!=1&&Z V ((Aj V p).getD j U)!=-(1:Int))=true:=by simp only[ZGx]at hb;rw[ZGW];exact⟨by simpa using hb.1,by simpa using hb.2⟩
     rw[hc,ZGC];refine tried (λh=>?_) ?_ (-1)
     ·rcases h.2 with h|h;·rw[h]at e;simp at e
      ·rw[h]at ej;simp at ej
     ·unfold Js;rw[ZJb];right;rw[ZI6];refine⟨_,AV (d:=U) e,?_⟩;rw[ZHs,ZI6];refine⟨_,AV (d:=U) ej,by simpa using hb⟩
   ·have :j=(Aj V p).length:=by omega
    subst this;rw[ZGF (by rw[ZGM];omega),ZF9];refine⟨⟨by omega,by omega⟩,BC e _ ⟨rfl,λa ha b hb=>?_⟩⟩;by_cases hae:a=i;·subst hae;exact lC b hb
    ·exact IG a (by omega) b hb
  ·have :i=(Ak V p).length:=by omega
   subst this;rw[ZGF (by rw[ZGM];omega),ZF9];have ZBf:FT.fn (((N:Int)-1,Ba V p,(AK V p).map (Ax V),(-1:Int),(Ak V p).map (Ax V),(Aj V p).map (Ax V),(Cc V p).map (Ax V)),())=[I6 V p]:=by show[Ba V p++((Ak V p).map (Ax V)).flatMap λl=>((Aj V p).map (Ax V)).map λu=>((0:Int),(0:Int),BD l.2.1 u.2.2 (-u.2.1) l.2.2)]=_;unfold I6;rw[ZKC];congr 2;congr 1;funext x;rw[ZHP];rfl
   have hX:Js V p=true:=by unfold Js;rw[hD,ZGW];refine⟨rfl,List.all_eq_true.2 λx hx=>List.all_eq_true.2 λy hy=>?_⟩;obtain⟨a,ha,rfl⟩:=Fe (d:=U) hx;obtain⟨b,hb,rfl⟩:=Fe (d:=U) hy;simpa using IG a ha b hb
   have hS:Dq p N V=some [I6 V p]:=by
    unfold Dq;rw[ZGA hE];by_cases hA:Cc V p=[]∧(Ak V p=[]∨Aj V p=[])
    ·rw[ZGE hA];have :I6 V p=Ba V p:=by
      unfold I6;rcases hA.2 with h|h;·rw[h];simp
      ·rw[h];simp
     rw[this]
    ·rw[ZGA hA,ZGE hX]
   refine⟨⟨N-1,kM _ _ _⟩,?_⟩;rw[ZBf];exact one _ _ (Z1 hN (v:=V) (by omega)).D.1 rfl hS
abbrev GL.fn(x:Int×List Int×Unit):O:=(0,0,x.2.1,x.1)
abbrev HT.fn(x:Int×Int×Unit):List O:=[(2,x.1,[1],x.2.1)]
abbrev F0.fn(x:AM×Int×AM×Int×Unit):Bool:=decide (x.2.1=x.2.2.2.1)&&decide (x.1=x.2.2.1)
abbrev BF.fn(x:Unit):Bool:=true
def Us(s:AM):Int:=s.2.foldl (λm p=>max m (p.length:Int)) 0
def ZV(pieces conds vars:Int)(l:List AM):Bool:=CH.fn (pieces,conds,l,())&&l.all λs=>!(decide (vars<s.1)&&decide (s.1≤12)&&decide (1<Us s))&&s.2.all λp=>p.all λc=>(c.2.2.1.all λn=>!((decide (6<n)||decide (n< -6))&&AY s))&&!(decide (12<c.2.1)&&AY s)
abbrev Br.fn(x:Int×Int×Int×List AM×Unit):Bool:=ZV x.1 x.2.1 x.2.2.1 x.2.2.2.1
def VB(p:List O)(n:Int):Int×Int:=if n<1∨12<n then(0,6)else if(Ed p n).2.2≠0 then(0,(Ed p n).2.2)else if(Ed p n).2.1=true then(0,5)else(Cf (Ed p n).1 n,0)
abbrev Gj.fn(x:List O×Int×Unit):Int×Int:=VB x.1 x.2.1
abbrev Ib.fn(x:List O×Int×Unit):Int×Int:=VB x.1 x.2.1
def CS(a b:AM):Bool×Int:=if(D8 a b).2≠0 then(false,(D8 a b).2)else DW (D8 a b).1
abbrev EQ.fn(x:AM×AM×Unit):Bool×Int:=CS x.1 x.2.1
abbrev Ga.fn(x:AM×AM×Unit):Bool×Int:=CS x.1 x.2.1
def Jd(a b:AM):Bool×Int:=if(CS a b).2≠0∨(CS a b).1=false then(false,(CS a b).2)else CS b a
abbrev F9.fn(x:AM×AM×Unit):Bool×Int:=Jd x.1 x.2.1
abbrev He.fn(x:AM×AM×Unit):Bool×Int:=Jd x.1 x.2.1
abbrev Fp.fn(x:List O×Unit):List O:=x.1
abbrev Fp.pre(x:List O×Unit):Prop:=x.1.length≤4096∧∀c∈x.1,c.2.2.1.length≤4096
def GA(on:Nat→Bool):Nat→AM→AM×Int|0,s=>(s,0)|v+1,s=>if on v=true then if(Ar s (v:Int)).2≠0 then((0,[]),(Ar s (v:Int)).2)else GA on v (Ar s (v:Int)).1 else GA on v s
def Io(s:AM)(l:List Int):AM×Int:=if AY s=false then((0,[]),1)else if H0 s.1 l=false then((0,[]),6)else GA (λv=>decide ((v:Int)∈l)) s.1.toNat s
abbrev Ft.fn(x:AM×List Int×Unit):AM×Int:=Io x.1 x.2.1
abbrev G5.fn(x:AM×List Int×Unit):AM×Int:=Io x.1 x.2.1
def N0(s:AM)(k:Int):AM×Int:=if AY s=false then((0,[]),1)else if k<0∨s.1<k then((0,[]),6)else Io s ((List.range (s.1-k).toNat).map λ(i:Nat)=>k+(i:Int))
abbrev Gi.fn(x:AM×Int×Unit):AM×Int:=N0 x.1 x.2.1
abbrev Ia.fn(x:AM×Int×Unit):AM×Int:=N0 x.1 x.2.1
def DU.wp(x0:Int×List (List O))(x1:Int)(Q:(Int×List (List O))×Int→Prop):Prop:=let v0:=List.length ((Ca.fn (x0,())).1).2;cond (! Cu.fn (x0,())) (Q ((0,([]:List (List O))),1)) (((! decide (x1<0))=true→(! decide (x1<0))=true∧True)∧((! decide (x1<0))=true→(! decide (x1<0))=true∧(! decide (x1<0))=true∧True)∧(decide (x1<0)=false→(! decide (x1<0))=true)∧cond (decide (x1<0)||decide (x0.1≤x1)) (Q ((0,([]:List (List O))),6)) (cond ((Ca.fn (x0,())).2 !=0) (Q ((0,([]:List (List O))),(Ca.fn (x0,())).2)) (Lp (σ:=Int×List (List O)) (λy3 R3=>let v1:=List.getD ((Ca.fn (x0,())).1).2 y3.1.toNat ([]:List O);let v2:=Dt.fn (v1,(x0.1,(x1,())));cond (decide (y3.1<((v0:Nat):Int))) ((0≤y3.1∧y3.1<((v0:Nat):Int))∧Dt.pre (v1,(x0.1,(x1,())))∧cond (v2.2 !=0) (Q ((0,([]:List (List O))),v2.2)) (((y3.2.length+v2.1.length)*24≤140737488355328∧y3.2.length+v2.1.length≤9223372036854775807)∧AA .i64 (y3.1+1)∧R3 ( y3.1+1,y3.2++v2.1))) (Lp (σ:=Int×List (List O)×(ByteArray→Option Bool)) (λy5 R5=>let v3:=y3.2.getD y5.1.toNat ([]:List O);let v4:=A1.fn ((AD.fn (v3,())).1,());let v6:=[(AD.fn (v3,())).1];cond (decide (y5.1<y3.2.length)) ((0≤y5.1∧y5.1<y3.2.length)∧AD.pre (v3,())∧cond (((AD.fn (v3,())).2).2 !=0) (cond (((AD.fn (v3,())).2).2 !=0) (Q ((0,([]:List (List O))),((AD.fn (v3,())).2).2)) (AA .i64 (x0.1-1)∧Q (( x0.1-1,([]:List (List O))),0))) (((!((AD.fn (v3,())).2).1)=true→(!((AD.fn (v3,())).2).1)=true∧A1.pre ((AD.fn (v3,())).1,()))∧((!((AD.fn (v3,())).2).1)=true→(!((AD.fn (v3,())).2).1)=true∧(!((AD.fn (v3,())).2).1)=true∧True)∧(((AD.fn (v3,())).2).1=false→(!((AD.fn (v3,())).2).1)=true)∧cond (((AD.fn (v3,())).2).1||Option.getD (y5.2.2 v4) false) (AA .i64 (y5.1+1)∧R5 ( y5.1+1,y5.2)) (A1.pre ((AD.fn (v3,())).1,())∧((y5.2.1.length+v6.length)*24≤140737488355328∧y5.2.1.length+v6.length≤9223372036854775807)∧cond (decide (400<(( List.length (y5.2.1++v6):Nat):Int))) (Q ((0,([]:List (List O))),3)) (AA .i64 (y5.1+1)∧R5 ( y5.1+1,( y5.2.1++v6,Bu y5.2.2 v4 true)))))) (AA .i64 (x0.1-1)∧Q (( x0.1-1,y5.2.1),0))) (0,(([]:List (List O)),λ(a5:ByteArray)=>(none:Option Bool))))) (0,([]:List (List O))))))
def GZ.wp(x0:Int×List (List O))(x1:Int)(Q:(Int×List (List O))×Int→Prop):Prop:=let v0:=FK.fn (x0,());cond (! CO.fn (x0,())) (Q ((0,([]:List (List O))),1)) (((! decide (x1<0))=true→(! decide (x1<0))=true∧True)∧((! decide (x1<0))=true→(! decide (x1<0))=true∧(! decide (x1<0))=true∧True)∧(decide (x1<0)=false→(! decide (x1<0))=true)∧cond (decide (x1<0)||decide (x0.1≤x1)) (Q ((0,([]:List (List O))),6)) (cond (v0.2 !=0) (Q ((0,([]:List (List O))),v0.2)) (Lp (σ:=Int×List (List O)) (λy3 R3=>let v1:=v0.1.2.getD y3.1.toNat ([]:List O);let v2:=EO.fn (v1,(x0.1,(x1,())));cond (decide (y3.1<v0.1.2.length)) ((0≤y3.1∧y3.1<v0.1.2.length)∧EO.pre (v1,(x0.1,(x1,())))∧cond (v2.2 !=0) (Q ((0,([]:List (List O))),v2.2)) (((y3.2.length+v2.1.length)*24≤140737488355328∧y3.2.length+v2.1.length≤9223372036854775807)∧AA .i64 (y3.1+1)∧R3 ( y3.1+1,y3.2++v2.1))) (AA .i64 (x0.1-1)∧EF.pre ( x0.1-1,(y3.2,()))∧Q (EF.fn ( x0.1-1,(y3.2,()))))) (0,([]:List (List O))))))
def Bj.wp(N:Nat)(x0:List O)(x1:Int)(Q:Bool×Int→Prop):Prop:=let v0:=Eu.fn (x0,(x1,()));let v1:=EO.fn (x0,(x1,(v0,())));cond (x1==0) (Q (true,0)) (Eu.pre (x0,(x1,()))∧EO.pre (x0,(x1,(v0,())))∧cond (v1.2 !=0) (Q (false,v1.2)) (Lp (σ:=Int) (λy4 R4=>let v2:=v1.1.getD y4.toNat ([]:List O);let v3:=Bj.fn (v2,( x1-1,()));cond (decide (y4<v1.1.length)) ((0≤y4∧y4<v1.1.length)∧AA .i64 (x1-1)∧Bj.preN N (v2,( x1-1,()))∧((!v3.1)=true→(!v3.1)=true∧True)∧(v3.1=false→(!v3.1)=true)∧cond (v3.1||v3.2 !=0) (Q v3) (AA .i64 (y4+1)∧R4 (y4+1))) (Q (false,0))) 0))
def Do.wp(x0:Int×List (List O))(Q:Bool×Int→Prop):Prop:=let v0:=FK.fn (x0,());cond (! CO.fn (x0,())) (Q (false,1)) (cond (v0.2 !=0) (Q (false,v0.2)) (Lp (σ:=Int) (λy2 R2=>let v1:=v0.1.2.getD y2.toNat ([]:List O);let v2:=Bj.fn (v1,(x0.1,()));cond (decide (y2<v0.1.2.length)) ((0≤y2∧y2<v0.1.2.length)∧Bj.pre (v1,(x0.1,()))∧((!v2.1)=true→(!v2.1)=true∧True)∧(v2.1=false→(!v2.1)=true)∧cond (v2.1||v2.2 !=0) (Q (false,v2.2)) (AA .i64 (y2+1)∧R2 (y2+1))) (Q (true,0))) 0))
def Hp.wp(N:Nat)(x0:List O)(x1:Int)(x2:ByteArray→Option Bool)(Q:Bool×Int→(ByteArray→Option Bool)→Prop):Prop:=let v2:=Eg.fn (x0,(x1,()));let v3:=Dt.fn (x0,(x1,(v2,())));cond (x1==0) (Q (true,0) x2) (A1.pre (x0,())∧cond (Option.isSome (x2 (A1.fn (x0,())))) (Q ( Option.getD (x2 (A1.fn (x0,()))) false,0) x2) (Eg.pre (x0,(x1,()))∧Dt.pre (x0,(x1,(v2,())))∧cond (v3.2 !=0) (Q (false,v3.2) x2) (Lp (σ:=Int×(ByteArray→Option Bool)) (λy5 R5=>let v4:=v3.1.getD y5.1.toNat ([]:List O);cond (decide (y5.1<v3.1.length)) ((0≤y5.1∧y5.1<v3.1.length)∧AA .i64 (x1-1)∧LD N (v4,x1-1) y5.2∧∀b7:Bool×Int,∀b8:ByteArray→Option Bool,Jn (v4,x1-1) y5.2 b7 b8→cond (b7.2 !=0) (Q (false,b7.2) b8) (cond b7.1 (Q (true,0) (Bu b8 (A1.fn (x0,())) true)) (AA .i64 (y5.1+1)∧R5 ( y5.1+1,b8)))) (Q (false,0) (Bu y5.2 (A1.fn (x0,())) false))) (0,x2))))
def Aw.wp(x0:Int×List (List O))(Q:Bool×Int→Prop):Prop:=let v0:=List.length ((Ca.fn (x0,())).1).2;cond (! Cu.fn (x0,())) (Q (false,1)) (cond ((Ca.fn (x0,())).2 !=0) (Q (false,(Ca.fn (x0,())).2)) (Lp (σ:=Int×(ByteArray→Option Bool)) (λy2 R2=>let v1:=List.getD ((Ca.fn (x0,())).1).2 y2.1.toNat ([]:List O);cond (decide (y2.1<((v0:Nat):Int))) ((0≤y2.1∧y2.1<((v0:Nat):Int))∧OZ (v1,x0.1) y2.2∧∀b4:Bool×Int,∀b5:ByteArray→Option Bool,Jn (v1,x0.1) y2.2 b4 b5→((b4.2 !=0)=false→(! b4.2 !=0)=true)∧cond ( b4.2 !=0||b4.1) (Q (false,b4.2)) (AA .i64 (y2.1+1)∧R2 ( y2.1+1,b5))) (Q (true,0))) (0,λ(a2:ByteArray)=>(none:Option Bool))))
def GL.wp(x0:Int)(x1:List Int)(Q:O→Prop):Prop:=Q (0,(0,(x1,x0)))
def HT.wp(x0:Int)(x1:Int)(Q:List O→Prop):Prop:=Q [(2,(x0,([1],x1)))]
def F0.wp(x0:Int×List (List O))(x1:Int)(x2:Int×List (List O))(x3:Int)(Q:Bool→Prop):Prop:=((x1==x3)=true→(x1==x3)=true∧(x1==x3)=true∧True)∧((x1==x3)=true→(x1==x3)=true)∧Q ( x1==x3&&Et.fn (x0,(x2,())))
def Br.wp(x0:Int)(x1:Int)(x2:Int)(x3:List (Int×List (List O)))(Q:Bool→Prop):Prop:=cond (! CH.fn (x0,(x1,(x3,())))) (Q false) (Lp (σ:=Int) (λy5 R5=>let v1:=x3.getD y5.toNat (0,([]:List (List O)));let v7:=CO.fn (v1,());cond (decide (y5<x3.length)) ((0≤y5∧y5<x3.length)∧Lp (σ:=Int×Int) (λy7 R7=>cond (decide (y7.1<v1.2.length)) ((0≤y7.1∧y7.1<v1.2.length)∧AA .i64 (y7.1+1)∧R7 ( y7.1+1,max y7.2 ((List.length (v1.2.getD y7.1.toNat ([]:List O)):Nat):Int))) ((decide (x2<v1.1)=true→decide (x2<v1.1)=true∧True)∧(decide (x2<v1.1)=true→decide (x2<v1.1)=true∧True)∧(decide (x2<v1.1)=true→decide (x2<v1.1)=true)∧((decide (x2<v1.1)&&decide (v1.1≤12))=true→(decide (x2<v1.1)&&decide (v1.1≤12))=true∧True)∧((decide (x2<v1.1)&&decide (v1.1≤12))=true→(decide (x2<v1.1)&&decide (v1.1≤12))=true)∧cond ( decide (x2<v1.1)&&decide (v1.1≤12)&&decide (1<y7.2)) (Q false) (Lp (σ:=Int) (λy9 R9=>let v4:=v1.2.getD y9.toNat ([]:List O);cond (decide (y9<v1.2.length)) ((0≤y9∧y9<v1.2.length)∧Lp (σ:=Int) (λy11 R11=>let v5:=v4.getD y11.toNat U;cond (decide (y11<v4.length)) ((0≤y11∧y11<v4.length)∧Lp (σ:=Int) (λy13 R13=>let v6:=v5.2.2.1.getD y13.toNat 0;cond (decide (y13<v5.2.2.1.length)) ((0≤y13∧y13<v5.2.2.1.length)∧((! decide (6<v6))=true→(! decide (6<v6))=true∧True)∧(decide (6<v6)=false→(! decide (6<v6))=true)∧((decide (6<v6)||decide (v6< -6))=true→(decide (6<v6)||decide (v6< -6))=true∧True)∧((decide (6<v6)||decide (v6< -6))=true→(decide (6<v6)||decide (v6< -6))=true)∧cond ((decide (6<v6)||decide (v6< -6))&&v7) (Q false) (AA .i64 (y13+1)∧R13 (y13+1))) ((decide (12<v5.2.1)=true→decide (12<v5.2.1)=true∧True)∧(decide (12<v5.2.1)=true→decide (12<v5.2.1)=true)∧cond (decide (12<v5.2.1)&&v7) (Q false) (AA .i64 (y11+1)∧R11 (y11+1)))) 0) (AA .i64 (y9+1)∧R9 (y9+1))) 0) (AA .i64 (y5+1)∧R5 (y5+1))) 0))) (0,0)) (Q true)) 0)
def Gj.wp(x0:List O)(x1:Int)(Q:Int×Int→Prop):Prop:=let v0:=Hh.fn (x0,(x1,()));((! decide (x1<1))=true→(! decide (x1<1))=true∧True)∧(decide (x1<1)=false→(! decide (x1<1))=true)∧cond (decide (x1<1)||decide (12<x1)) (Q (0,6)) (cond (v0.2.2 !=0) (Q (0,v0.2.2)) (cond v0.2.1 (Q (0,5)) (Eg.pre (v0.1,(x1,()))∧Q ( Eg.fn (v0.1,(x1,())),0))))
def Ib.wp(x0:List O)(x1:Int)(Q:Int×Int→Prop):Prop:=let v0:=H3.fn (x0,(x1,()));((! decide (x1<1))=true→(! decide (x1<1))=true∧True)∧(decide (x1<1)=false→(! decide (x1<1))=true)∧cond (decide (x1<1)||decide (12<x1)) (Q (0,6)) (cond (v0.2.2 !=0) (Q (0,v0.2.2)) (cond v0.2.1 (Q (0,5)) (Eu.pre (v0.1,(x1,()))∧Q ( Eu.fn (v0.1,(x1,())),0))))
def EQ.wp(x0:Int×List (List O))(x1:Int×List (List O))(Q:Bool×Int→Prop):Prop:=let v0:=Hg.fn (x0,(x1,()));cond (v0.2 !=0) (Q (false,v0.2)) (Q (Aw.fn (v0.1,())))
def Ga.wp(x0:Int×List (List O))(x1:Int×List (List O))(Q:Bool×Int→Prop):Prop:=let v0:=H2.fn (x0,(x1,()));cond (v0.2 !=0) (Q (false,v0.2)) (Q (Do.fn (v0.1,())))
def F9.wp(x0:Int×List (List O))(x1:Int×List (List O))(Q:Bool×Int→Prop):Prop:=let v0:=EQ.fn (x0,(x1,()));( ! v0.2 !=0=true→! v0.2 !=0=true∧True)∧((v0.2 !=0)=false→! v0.2 !=0=true)∧cond ( v0.2 !=0||!v0.1) (Q (false,v0.2)) (Q (EQ.fn (x1,(x0,()))))
def He.wp(x0:Int×List (List O))(x1:Int×List (List O))(Q:Bool×Int→Prop):Prop:=let v0:=Ga.fn (x0,(x1,()));((! !v0.1)=true→(! !v0.1)=true∧True)∧((!v0.1)=false→(! !v0.1)=true)∧cond ( !v0.1||v0.2 !=0) (Q (false,v0.2)) (Q (Ga.fn (x1,(x0,()))))
def law05_ElimShadows.wp(x0:Int×List (List O))(x1:Int)(Q:Bool→Prop):Prop:=let v1:=DU.fn (x0,(x1,()));let v2:=GZ.fn (x0,(x1,()));let v3:=F0.fn (v1.1,(v1.2,(v2.1,(v2.2,()))));cond (! CH.fn (6,(10,([x0],())))) (Q (BF.fn ())) ((v3=true→v3=true)∧Q (v3&&BF.fn ()))
def law05_ElimEmpty.wp(x0:Int×List (List O))(Q:Bool→Prop):Prop:=cond (! Br.fn (4,(7,(4,([x0],()))))) (Q (BF.fn ())) ((((Aw.fn (x0,())).1==(Do.fn (x0,())).1)=true→((Aw.fn (x0,())).1==(Do.fn (x0,())).1)=true∧((Aw.fn (x0,())).1==(Do.fn (x0,())).1)=true∧True)∧(((Aw.fn (x0,())).1==(Do.fn (x0,())).1)=true→((Aw.fn (x0,())).1==(Do.fn (x0,())).1)=true)∧(((Aw.fn (x0,())).1==(Do.fn (x0,())).1&&(Aw.fn (x0,())).2==(Do.fn (x0,())).2)=true→((Aw.fn (x0,())).1==(Do.fn (x0,())).1&&(Aw.fn (x0,())).2==(Do.fn (x0,())).2)=true)∧Q ((Aw.fn (x0,())).1==(Do.fn (x0,())).1&&(Aw.fn (x0,())).2==(Do.fn (x0,())).2&&BF.fn ()))
def law05_ElimPicks.wp(x0:List O)(x1:Int)(Q:Bool→Prop):Prop:=let v0:=Gj.fn (x0,(x1,()));let v1:=Ib.fn (x0,(x1,()));cond (decide (400<(x0.length:Int))) (Q (BF.fn ())) (((v0.1==v1.1)=true→(v0.1==v1.1)=true∧(v0.1==v1.1)=true∧True)∧((v0.1==v1.1)=true→(v0.1==v1.1)=true)∧(( v0.1==v1.1&&v0.2==v1.2)=true→( v0.1==v1.1&&v0.2==v1.2)=true)∧Q ( v0.1==v1.1&&v0.2==v1.2&&BF.fn ()))
def law05_ElimWithin.wp(x0:Int×List (List O))(x1:Int×List (List O))(Q:Bool→Prop):Prop:=let v1:=EQ.fn (x0,(x1,()));let v2:=Ga.fn (x0,(x1,()));let v3:=F9.fn (x0,(x1,()));let v4:=He.fn (x0,(x1,()));cond (! Br.fn (4,(4,(3,([x0,x1],()))))) (Q (BF.fn ())) (((v1.1==v2.1)=true→(v1.1==v2.1)=true∧(v1.1==v2.1)=true∧True)∧((v1.1==v2.1)=true→(v1.1==v2.1)=true)∧(( v1.1==v2.1&&v1.2==v2.2)=true→( v1.1==v2.1&&v1.2==v2.2)=true∧( v1.1==v2.1&&v1.2==v2.2)=true∧True)∧(( v1.1==v2.1&&v1.2==v2.2)=true→( v1.1==v2.1&&v1.2==v2.2)=true)∧(( v1.1==v2.1&&v1.2==v2.2&&v3.1==v4.1)=true→( v1.1==v2.1&&v1.2==v2.2&&v3.1==v4.1)=true∧( v1.1==v2.1&&v1.2==v2.2&&v3.1==v4.1)=true∧True)∧(( v1.1==v2.1&&v1.2==v2.2&&v3.1==v4.1)=true→( v1.1==v2.1&&v1.2==v2.2&&v3.1==v4.1)=true)∧(( v1.1==v2.1&&v1.2==v2.2&&v3.1==v4.1&&v3.2==v4.2)=true→( v1.1==v2.1&&v1.2==v2.2&&v3.1==v4.1&&v3.2==v4.2)=true)∧Q ( v1.1==v2.1&&v1.2==v2.2&&v3.1==v4.1&&v3.2==v4.2&&BF.fn ()))
theorem sN(p:List O)(n v:Int):(BE p n v).2=0∨(BE p n v).2=3:=by
 unfold BE;rcases CN (Dq p n.toNat v.toNat)with e|⟨l,e⟩;·rw[e];exact .inr rfl
 ·simp only[e];unfold GN;rcases CN (Bg l)with e|⟨l,e⟩;·rw[e];exact .inr rfl
  ·rw[e];exact .inl rfl
theorem ZD7{p:List O}{n v:Int}(h:¬(BE p n v).2=0):(BE p n v).2=3:=(sN p n v).resolve_left h
def MA(n v:Int)(all:List (List O))(p:List O):Option (List (List O)):=if(BE p n v).2≠0 then none else some (all++(BE p n v).1)
theorem TR{n v:Int}(CY:0≤v)(hv:v<n):∀{l a b:List (List O)},(∀q∈l,pieceN q n)→l.foldlM (MA n v) a=some b→(∀q∈a,BN q∧A3 q (n.toNat-1))→b.length≤a.length+400*l.length∧∀q∈b,BN q∧A3 q (n.toNat-1)
 |[],a,b,_,h,ha=>by cases h;exact⟨by simp,ha⟩|p::l,a,b,hl,h,ha=>by
  rw[ZGc]at h;obtain⟨o,h1,h2⟩:=Option.bind_eq_some_iff.1 h;unfold MA at h1;split at h1;·cases h1
  ·rename_i h0;cases h1;obtain⟨k1,_⟩:=OI (hl p (by simp)) CY hv (by simpa using h0);obtain⟨j1,j2⟩:=TR CY hv (λq hq=>hl q (ZGK _ hq)) h2 λq hq=>by
    rcases List.mem_append.1 hq with hq|hq;·exact ha q hq
    ·exact⟨(k1.at hq).1.B,(k1.at hq).2⟩
   refine⟨?_,j2⟩;have :=k1.1.1;simp only[ZGI]at j1;simp only[ZGL];omega
theorem hZ(n v:Int)(l:List (List O)):Oj n v l=l.foldlM (MA n v) []:=rfl
theorem Zq{s:AM}(h:(AX s).2=0):AY s=true:=by cases hv:AY s with|true=>rfl|false=>unfold AX at h;rw[ZGE hv]at h;cases h
theorem N5{s:AM}(h:(AX s).2=0){q:List O}(hq:q∈(AX s).1.2):pieceN q s.1:=by have hb:=AY.b (Zq h);have :=(Pf h).pieceN (by omega) hq;rwa[ZHD hb.1]at this
theorem iA{s:AM}{v:Int}(hn:(AX s).2=0)(CY:0≤v)(hv:v<s.1){body:Int×List (List O)→(Int×List (List O)→Prop)→Prop}(h:∀(i:Nat)(t:List (List O))(R:Int×List (List O)→Prop),(i:Int)<((AX s).1.2.length:Int)→AA .i64 ((i:Int)+1)→Dt.pre ((AX s).1.2.getD i [],s.1,v,())→(Ar s v=((0,[]),3)→(BE ((AX s).1.2.getD i []) s.1 v).2≠0→(BE ((AX s).1.2.getD i []) s.1 v).2=3→body ((i:Int),t) R)∧((BE ((AX s).1.2.getD i []) s.1 v).2=0→t.length+(BE ((AX s).1.2.getD i []) s.1 v).1.length≤4194304→R ((i:Int)+1,t++(BE ((AX s).1.2.getD i []) s.1 v).1)→body ((i:Int),t) R))(h2:∀(t:List (List O))(R:Int×List (List O)→Prop),Ar s v=GO (s.1-1) (Bg t)→t.length≤4194304→(∀q∈t,BN q∧A3 q (s.1.toNat-1))→body (((AX s).1.2.length:Int),t) R):Lp body (0,[]):=by
 have hval:=Zq hn;have hE:Ar s v=match Oj s.1 v (AX s).1.2 with|none=>((0,[]),3)|some all=>GO (s.1-1) (Bg all):=by unfold Ar;rw[ZGA (by rw[hval];simp),ZGA (by omega),ZGA (by omega)];cases Oj s.1 v (AX s).1.2<;>rfl
 have hlen:(AX s).1.2.length≤400:=(Pf hn).1.1;have hall:∀q∈(AX s).1.2,pieceN q s.1:=λq hq=>N5 hn hq;rw[hZ]at hE;refine Lp.foldO (AX s).1.2 [] (MA s.1 v) [] (by omega) (λi t R hi hi' hf ht hs Bz=>?_) λt R ht=>?_
 ·have hq:=AV (d:=[]) hi;obtain⟨g1,g2⟩:=h i t R hi' hf ⟨hall _ hq,CY,hv⟩;have Lf:=(TR CY hv (λq hq=>hall q (ZGl hq)) ht (by simp)).1;have :((AX s).1.2.take i).length≤400:=by rw[ZGP];omega
  simp only[ZGS]at Lf;by_cases h0:(BE ((AX s).1.2.getD i []) s.1 v).2=0;·have hl:=(OI (hall _ hq) CY hv h0).1.1.1;refine g2 h0 (by omega) (hs _ ?_);unfold MA;rw[ZGA (by omega)]
  ·refine g1 ?_ h0 (ZD7 h0);rw[hE,Bz (by unfold MA;rw[ZGE h0])]
 ·obtain⟨k1,k2⟩:=TR CY hv hall ht (by simp);simp only[ZGS]at k1;exact h2 t R (by rw[hE,ht]) (by omega) k2
theorem DU.spec(s:AM)(v:Int):DU.wp s v λr=>r=DU.fn (s,v,()):=by unfold DU.wp;dsimp only;rw[show DU.fn (s,v,())=Ar s v from rfl,show Cu.fn (s,())=AY s from rfl,show Ca.fn (s,())=AX s from rfl];cases hval:AY s with|false=>simp only[ZGz,ZGC];unfold Ar;rw[ZGE hval]|true=>
 have hb:=AY.b hval;simp only[ZGq,ZF9];refine⟨λh=>⟨h,trivial⟩,λh=>⟨h,h,trivial⟩,λh=>by rw[h];rfl,?_⟩;by_cases hr:v<0∨s.1≤v;·rw[show(decide (v<0)||decide (s.1≤v))=true by rw[←ZIb,ZGB hr],ZGC];unfold Ar;rw[ZGA (by rw[hval];simp),ZGE hr]
 ·rw[show(decide (v<0)||decide (s.1≤v))=false by rw[←ZIb,ZGF hr],ZF9];by_cases hn:(AX s).2=0
  ·rw[show((AX s).2 !=0)=false by rw[hn];rfl,ZF9];refine iA hn (v:=v) (by omega) (by omega) (λi t R hi hf hp=>⟨λh1 h2 h3=>?_,λh1 h2 hR=>?_⟩) λt R ht Dv UR=>?_;·dsimp only;rw[ZGB hi,ZGC,ZGD];refine⟨⟨by omega,hi⟩,hp,?_⟩;rw[show Dt.fn ((AX s).1.2.getD i [],s.1,v,())=BE ((AX s).1.2.getD i []) s.1 v from rfl,bne_iff_ne.2 h2,ZGC,h3,h1]
   ·dsimp only;rw[ZGB hi,ZGC,ZGD];refine⟨⟨by omega,hi⟩,hp,?_⟩;rw[show Dt.fn ((AX s).1.2.getD i [],s.1,v,())=BE ((AX s).1.2.getD i []) s.1 v from rfl,h1,show((0:Int)!=0)=false from rfl,ZF9];exact⟨⟨by omega,by omega⟩,hf,hR⟩
   ·dsimp only;rw[ZGF (ZGH _),ZF9];have ZBK:AA IntKind.i64 (s.1-1):=⟨by omega,by omega⟩;refine Lp.tid t [] _ F7.nil (by simp) (by omega) (λi out m R hi hi' hf hk C2 h1 h2 h3=>?_) λout m R HN hk C2=>?_
    ·dsimp only;rw[ZGB hi',ZGC,ZGD];have HM:=λhn=>ht.trans (show GO (s.1-1) (Bg t)=((0,[]),3)by rw[show Bg t=none from h3 hn];rfl);refine⟨⟨by omega,hi'⟩,OM (UR _ (AV hi)).1 hk C2 (λh4 hn=>?_) (λhs=>⟨hf,h1 hs⟩) (λhn=>?_) λhs=>⟨hf,h2 hs⟩⟩;·simp only[AD.fn,h4,show((3:Int)!=0)=true from rfl,ZGC];rw[HM hn]
     ·rw[HM hn]
    ·dsimp only;rw[ZGF (ZGH _),ZF9];exact⟨ZBK,by rw[ht,show Bg t=some out from HN];rfl⟩
  ·rw[bne_iff_ne.2 hn,ZGC];unfold Ar;rw[ZGA (by rw[hval];simp),ZGA hr,ZGE hn]
theorem GZ.spec(s:AM)(v:Int):GZ.wp s v λr=>r=GZ.fn (s,v,()):=by unfold GZ.wp;dsimp only;rw[show GZ.fn (s,v,())=Ar s v from rfl,show CO.fn (s,())=AY s from rfl,show FK.fn (s,())=AX s from rfl];cases hval:AY s with|false=>simp only[ZGz,ZGC];unfold Ar;rw[ZGE hval]|true=>
 have hb:=AY.b hval;simp only[ZGq,ZF9];refine⟨λh=>⟨h,trivial⟩,λh=>⟨h,h,trivial⟩,λh=>by rw[h];rfl,?_⟩;by_cases hr:v<0∨s.1≤v;·rw[show(decide (v<0)||decide (s.1≤v))=true by rw[←ZIb,ZGB hr],ZGC];unfold Ar;rw[ZGA (by rw[hval];simp),ZGE hr]
 ·rw[show(decide (v<0)||decide (s.1≤v))=false by rw[←ZIb,ZGF hr],ZF9];by_cases hn:(AX s).2=0
  ·rw[show((AX s).2 !=0)=false by rw[hn];rfl,ZF9];refine iA hn (v:=v) (by omega) (by omega) (λi t R hi hf hp=>⟨λh1 h2 h3=>?_,λh1 h2 hR=>?_⟩) λt R ht Dv UR=>?_;·dsimp only;rw[ZGB hi,ZGC,ZGD];refine⟨⟨by omega,hi⟩,hp,?_⟩;rw[show EO.fn ((AX s).1.2.getD i [],s.1,v,())=BE ((AX s).1.2.getD i []) s.1 v from rfl,bne_iff_ne.2 h2,ZGC,h3,h1]
   ·dsimp only;rw[ZGB hi,ZGC,ZGD];refine⟨⟨by omega,hi⟩,hp,?_⟩;rw[show EO.fn ((AX s).1.2.getD i [],s.1,v,())=BE ((AX s).1.2.getD i []) s.1 v from rfl,h1,show((0:Int)!=0)=false from rfl,ZF9];exact⟨⟨by omega,by omega⟩,hf,hR⟩
   ·dsimp only;rw[ZGF (ZGH _),ZF9];exact⟨⟨by omega,by omega⟩,⟨by show t.length≤_;omega,λp hp=>⟨(UR p hp).1,_,(UR p hp).2⟩⟩,ht.symm⟩
  ·rw[bne_iff_ne.2 hn,ZGC];unfold Ar;rw[ZGA (by rw[hval];simp),ZGA hr,ZGE hn]
theorem VP{f:List O→Bool×Int}{l:List (List O)}{i:Nat}(hi:i<l.length):Cm f (l.drop i)=if(f (l.getD i [])).1=true∨(f (l.getD i [])).2≠0 then f (l.getD i [])else Cm f (l.drop (i+1)):=by
 have :l.drop i=l.getD i []::l.drop (i+1):=by rw[ZGG,ZGU hi];simp
 rw[this];rfl
theorem Pw(k:Nat)(p:List O):Bc (k+1) p=if(BE p ((k+1:Nat):Int) (Cf p ((k+1:Nat):Int))).2≠0 then(false,(BE p ((k+1:Nat):Int) (Cf p ((k+1:Nat):Int))).2)else Cm (Bc k) (BE p ((k+1:Nat):Int) (Cf p ((k+1:Nat):Int))).1:=rfl
theorem pieceN.shadow{p:List O}{k:Nat}{v:Int}(h:pieceN p ((k+1:Nat):Int))(CY:0≤v)(hv:v<((k+1:Nat):Int))(h0:(BE p ((k+1:Nat):Int) v).2=0){q:List O}(hq:q∈(BE p ((k+1:Nat):Int) v).1):pieceN q (k:Int):=by
 have h1:=(OI h CY hv h0).1;have h2:(((k+1:Nat):Int)).toNat-1=k:=by omega
 rw[h2]at h1;exact h1.pieceN (by have :=h.2.2.2;omega) hq
theorem pieceN.nameOk{p:List O}{n:Int}(h:pieceN p n):nameOk p:=by obtain⟨h1,h2,h3,h4⟩:=h;exact Cv.name ⟨by omega,λc hc=>(h2 c hc).1⟩
theorem Bj.spec(N:Nat)(p:List O)(n:Int)(hp:Bj.preN (N+1) (p,n,())):Bj.wp N p n λr=>r=Bj.fn (p,n,()):=by
 obtain⟨hp,hN⟩:pieceN p n∧n<((N+1:Nat):Int):=hp;unfold Bj.wp;dsimp only;rw[show Bj.fn (p,n,())=Bc n.toNat p from rfl,show Eu.fn (p,n,())=Cf p n from rfl,show EO.fn (p,n,Cf p n,())=BE p n (Cf p n)from rfl];by_cases h0:n=0;·subst h0;rw[show((0:Int)==0)=true from rfl,ZGC];rfl
 ·rw[beq_eq_false_iff_ne.2 h0,ZF9];obtain⟨k,rfl⟩:∃k:Nat,n=((k+1:Nat):Int):=⟨(n-1).toNat,by have :=hp.2.2.1;omega⟩;obtain⟨c1,c2⟩:=S9 hp (by omega);refine⟨hp,⟨hp,c1,c2⟩,?_⟩;rw[ZGD,Pw];have FD:(BE p ((k+1:Nat):Int) (Cf p ((k+1:Nat):Int))).2=0→∀q∈(BE p ((k+1:Nat):Int) (Cf p ((k+1:Nat):Int))).1,pieceN q (k:Int):=λh q hq=>hp.shadow c1 c2 h hq;have hlen:(BE p ((k+1:Nat):Int) (Cf p ((k+1:Nat):Int))).2=0→(BE p ((k+1:Nat):Int) (Cf p ((k+1:Nat):Int))).1.length≤400:=λh=>(OI hp c1 c2 h).1.1.1;obtain⟨sh,KE⟩:∃sh,BE p ((k+1:Nat):Int) (Cf p ((k+1:Nat):Int))=sh:=⟨_,rfl⟩;rw[KE]at FD hlen⊢;have hk1:((k+1:Nat):Int)-1=(k:Int):=by omega
  rw[hk1];by_cases he:sh.2=0
  ·rw[show(sh.2 !=0)=false by rw[he];rfl,ZF9,ZGA λh=>h he];have hlen:=hlen he;have FD:=FD he;refine Lp.iter sh.1.length (λi z=>z=(i:Int)∧Cm (Bc k) sh.1=Cm (Bc k) (sh.1.drop i)) ⟨rfl,rfl⟩ ?_;rintro i z hi⟨rfl,hz⟩R hR;by_cases e:i<sh.1.length
   ·have e':(i:Int)<((sh.1.length:Nat):Int):=by omega
    rw[ZGB e',ZGC,ZGD];have hq:=FD _ (AV (d:=[]) e);rw[VP e]at hz;obtain⟨q,I0⟩:∃q,sh.1.getD i []=q:=⟨_,rfl⟩;rw[I0]at hq hz⊢;rw[show Bj.fn (q,(k:Int),())=Bc k q by show Bc (k:Int).toNat q=_;rw[ZGD]];obtain⟨r,hr⟩:∃r,Bc k q=r:=⟨_,rfl⟩;rw[hr]at hz⊢;refine⟨⟨by omega,e'⟩,⟨by have :=hp.2.2.2;omega,by have :=hp.2.2.2;omega⟩,⟨hq,by show(k:Int)<_;omega⟩,λh=>⟨h,trivial⟩,λh=>by rw[h];rfl,?_⟩;by_cases hc:r.1=true∨r.2≠0;·rw[ZGE hc]at hz;rw[show(r.1||r.2 !=0)=true by rw[ZHn,ZKk];exact hc,ZGC];exact hz.symm
    ·rw[ZGA hc]at hz;rw[show(r.1||r.2 !=0)=false by rw[ZJ4,ZJy,ZHn,ZKk];exact hc,ZF9];exact⟨⟨by omega,by omega⟩,hR e _ ⟨by omega,hz⟩⟩
   ·have :i=sh.1.length:=by omega
    subst this;rw[ZGF (ZGH _),ZF9,hz,ZHN];rfl
  ·rw[bne_iff_ne.2 he,ZGC,ZGE he]
theorem ZEn:Bg [[]]=some [[]]:=by decide
theorem ZD6(n v:Int):BE [] n v=([[]],0):=by
 unfold BE;have :Dq [] n.toNat v.toNat=some [[]]:=by unfold Dq;rw[show Eh v.toNat []=-1 from rfl,ZGA (show¬(0:Int)≤-1 by decide),ZGE ⟨rfl,.inl rfl⟩];rfl
 rw[this];show GN [[]]=_;unfold GN;rw[ZEn]
theorem sV:∀n,Bc n []=(true,0)|0=>rfl|n+1=>by rw[Pw,ZD6];rw[ZGA λh=>h rfl];show(if(Bc n []).1=true∨(Bc n []).2≠0 then Bc n []else Cm (Bc n) [])=_;rw[sV n];rfl
theorem Jl.put{m:ByteArray→Option Bool}(h:Jl m){p:List O}{n:Int}{b:Bool}(hp:pieceN p n)(hn:1≤n)(hb:Bc n.toNat p=(b,0)):Jl (Bu m (CP (DP p)) b):=by
 intro q k c hq hk h1;by_cases e:q=p
 ·subst e;have :some b=some c:=by rw[←hq];unfold Bu;rw[ZGE rfl]
  have Qu:b=c:=by injection this
  subst Qu;cases q with|nil=>rw[sV]at hb⊢;exact hb|cons a l=>have h2:=(hp.2.1 a (by simp)).2;have h3:=(hk.2.1 a (by simp)).2;rw[←h3,h2];exact hb
 ·refine h q k c ?_ hk h1;rw[←hq];unfold Bu;rw[ZGA];intro h;exact e (qB.1 h)
theorem Jl.nil:Jl λ_=>none:=λp n b h=>by cases h
theorem Hp.spec(N:Nat)(p:List O)(n:Int)(m:ByteArray→Option Bool)(hp:LD (N+1) (p,n) m):Hp.wp N p n m λr m'=>Jn (p,n) m r m':=by
 obtain⟨⟨hp,hm⟩,hN⟩:=hp;simp only at hp hN;unfold Hp.wp;dsimp only;rw[show Eg.fn (p,n,())=Cf p n from rfl,show Dt.fn (p,n,Cf p n,())=BE p n (Cf p n)from rfl,show A1.fn (p,())=CP (DP p)from rfl];have ok0:∀(r:Bool×Int)(m':ByteArray→Option Bool),Jl m'→Bc n.toNat p=r→r.2=0→Jn (p,n) m r m':=by intro r m' h h1 h2;refine⟨?_,h⟩;simp only;rw[h1,ZGA λh=>h h2]
 by_cases h0:n=0;·subst h0;rw[show((0:Int)==0)=true from rfl,ZGC];exact ok0 _ _ hm rfl rfl
 ·rw[beq_eq_false_iff_ne.2 h0,ZF9];obtain⟨k,rfl⟩:∃k:Nat,n=((k+1:Nat):Int):=⟨(n-1).toNat,by have :=hp.2.2.1;omega⟩;obtain⟨c1,c2⟩:=S9 hp (by omega);refine⟨hp.nameOk,?_⟩;rcases CN (m (CP (DP p)))with hmn|⟨b,Q7⟩
  ·rw[hmn,show(none:Option Bool).isSome=false from rfl,ZF9];refine⟨hp,⟨hp,c1,c2⟩,?_⟩;have Nt:=Pw k p;have FD:(BE p ((k+1:Nat):Int) (Cf p ((k+1:Nat):Int))).2=0→∀q∈(BE p ((k+1:Nat):Int) (Cf p ((k+1:Nat):Int))).1,pieceN q (k:Int):=λh q hq=>hp.shadow c1 c2 h hq;have hlen:(BE p ((k+1:Nat):Int) (Cf p ((k+1:Nat):Int))).2=0→(BE p ((k+1:Nat):Int) (Cf p ((k+1:Nat):Int))).1.length≤400:=λh=>(OI hp c1 c2 h).1.1.1;obtain⟨sh,KE⟩:∃sh,BE p ((k+1:Nat):Int) (Cf p ((k+1:Nat):Int))=sh:=⟨_,rfl⟩;rw[KE]at FD hlen Nt⊢;have hk1:((k+1:Nat):Int)-1=(k:Int):=by omega
   rw[hk1];rw[ZGD]at ok0;by_cases he:sh.2=0
   ·rw[show(sh.2 !=0)=false by rw[he];rfl,ZF9];rw[ZGA λh=>h he]at Nt;have hlen:=hlen he;have FD:=FD he;refine Lp.iter sh.1.length (λi z=>z.1=(i:Int)∧Cm (Bc k) sh.1=Cm (Bc k) (sh.1.drop i)∧Jl z.2) ⟨rfl,rfl,hm⟩ ?_;rintro i⟨z,mz⟩hi⟨GH,hz,hmz⟩R hR;simp only at GH hz hmz;subst GH;dsimp only;by_cases e:i<sh.1.length
    ·have e':(i:Int)<((sh.1.length:Nat):Int):=by omega
     rw[ZGB e',ZGC,ZGD];have hq:=FD _ (AV (d:=[]) e);rw[VP e]at hz;obtain⟨q,I0⟩:∃q,sh.1.getD i []=q:=⟨_,rfl⟩;rw[I0]at hq hz⊢;refine⟨⟨by omega,e'⟩,⟨by have :=hp.2.2.2;omega,by have :=hp.2.2.2;omega⟩,⟨⟨hq,hmz⟩,by show(k:Int)<_;omega⟩,λr mr Yp=>?_⟩;obtain⟨hr,hmr⟩:=Yp;simp only[ZGD]at hr;by_cases Bn:(Bc k q).2=0
     ·rw[ZGA λh=>h Bn]at hr;rw[←hr]at hz Bn;rw[show(r.2 !=0)=false by rw[Bn];rfl,ZF9];by_cases hr1:r.1=true
      ·rw[ZGE (.inl hr1)]at hz;rw[hr1,ZGC];have hs:Bc (k+1) p=(true,0):=by rw[Nt,hz,←hr1,←Bn]
       exact ok0 _ _ (hmr.put hp (by omega) (by rw[ZGD];exact hs)) hs rfl
      ·rw[ZGA λh=>h.elim hr1 λh=>h Bn]at hz;rw[show r.1=false by simpa using hr1,ZF9];exact⟨⟨by omega,by omega⟩,hR e _ ⟨by simp,hz,hmr⟩⟩
     ·rw[ZGE Bn]at hr;rw[ZGE (.inr Bn)]at hz;rw[hr,bne_iff_ne.2 Bn,ZGC];refine⟨?_,hmr⟩;simp only[ZGD];rw[Nt,hz,ZGE Bn]
    ·have :i=sh.1.length:=by omega
     subst this;rw[ZGF (ZGH _),ZF9];have hs:Bc (k+1) p=(false,0):=by rw[Nt,hz,ZHN];rfl
     exact ok0 _ _ (hmz.put hp (by omega) (by rw[ZGD];exact hs)) hs rfl
   ·rw[bne_iff_ne.2 he,ZGC];rw[ZGE he]at Nt;refine⟨?_,hm⟩;simp only[ZGD];rw[Nt,ZGE he]
  ·rw[Q7,show(some b).isSome=true from rfl,ZGC];have :=hm p _ b Q7 hp (by omega);exact ok0 _ _ hm this rfl
theorem Aw.spec(s:AM):Aw.wp s λr=>r=Aw.fn (s,()):=by unfold Aw.wp;dsimp only;rw[show Aw.fn (s,())=DW s from rfl,show Cu.fn (s,())=AY s from rfl,show Ca.fn (s,())=AX s from rfl];cases hval:AY s with|false=>simp only[ZGz,ZGC];unfold DW;rw[ZGE hval]|true=>
 simp only[ZGq,ZF9];by_cases hn:(AX s).2=0
 ·rw[show((AX s).2 !=0)=false by rw[hn];rfl,ZF9];have hE:DW s=if(Cm (Bc s.1.toNat) (AX s).1.2).1=true∨(Cm (Bc s.1.toNat) (AX s).1.2).2≠0 then(false,(Cm (Bc s.1.toNat) (AX s).1.2).2)else(true,0):=by unfold DW;rw[ZGA (by rw[hval];simp),ZGA λh=>h hn]
  have hlen:(AX s).1.2.length≤400:=(Pf hn).1.1;have hall:∀q∈(AX s).1.2,pieceN q s.1:=λq hq=>N5 hn hq;obtain⟨l,hl⟩:∃l,(AX s).1.2=l:=⟨_,rfl⟩;rw[hl]at hE hlen hall⊢;refine Lp.iter l.length (λi z=>z.1=(i:Int)∧Cm (Bc s.1.toNat) l=Cm (Bc s.1.toNat) (l.drop i)∧Jl z.2) ⟨rfl,rfl,Jl.nil⟩ ?_;rintro i⟨z,mz⟩hi⟨GH,hz,hmz⟩R hR;simp only at GH hz hmz;subst GH;dsimp only;by_cases e:i<l.length
  ·have e':(i:Int)<((l.length:Nat):Int):=by omega
   rw[ZGB e',ZGC,ZGD];have hq:=hall _ (AV (d:=[]) e);rw[VP e]at hz;obtain⟨q,I0⟩:∃q,l.getD i []=q:=⟨_,rfl⟩;rw[I0]at hq hz⊢;refine⟨⟨by omega,e'⟩,⟨hq,hmz⟩,λr mr Yp=>?_⟩;obtain⟨hr,hmr⟩:=Yp;simp only at hr;refine⟨λh=>by rw[h];rfl,?_⟩;by_cases Bn:(Bc s.1.toNat q).2=0
   ·rw[ZGA λh=>h Bn]at hr;rw[←hr]at hz Bn;rw[show(r.2 !=0)=false by rw[Bn];rfl,ZHh];by_cases hr1:r.1=true;·rw[ZGE (.inl hr1)]at hz;rw[hr1,ZGC,hE,ZGE (.inl (by rw[hz];exact hr1)),hz]
    ·rw[ZGA λh=>h.elim hr1 λh=>h Bn]at hz;rw[show r.1=false by simpa using hr1,ZF9];exact⟨⟨by omega,by omega⟩,hR e _ ⟨by simp,hz,hmr⟩⟩
   ·rw[ZGE Bn]at hr;rw[ZGE (.inr Bn)]at hz;rw[hr,bne_iff_ne.2 Bn,ZHp,ZGC,hE,ZGE (.inr (by rw[hz];exact Bn)),hz]
  ·have :i=l.length:=by omega
   subst this;rw[ZHN]at hz;rw[ZGF (ZGH _),ZF9,hE,hz,ZGA];rintro(h|h);·cases h
   ·exact h rfl
 ·rw[bne_iff_ne.2 hn,ZGC];unfold DW;rw[ZGA (by rw[hval];simp),ZGE hn]
theorem Do.spec(s:AM):Do.wp s λr=>r=Do.fn (s,()):=by unfold Do.wp;dsimp only;rw[show Do.fn (s,())=DW s from rfl,show CO.fn (s,())=AY s from rfl,show FK.fn (s,())=AX s from rfl];cases hval:AY s with|false=>simp only[ZGz,ZGC];unfold DW;rw[ZGE hval]|true=>
 simp only[ZGq,ZF9];by_cases hn:(AX s).2=0
 ·rw[show((AX s).2 !=0)=false by rw[hn];rfl,ZF9];have hE:DW s=if(Cm (Bc s.1.toNat) (AX s).1.2).1=true∨(Cm (Bc s.1.toNat) (AX s).1.2).2≠0 then(false,(Cm (Bc s.1.toNat) (AX s).1.2).2)else(true,0):=by unfold DW;rw[ZGA (by rw[hval];simp),ZGA λh=>h hn]
  have hlen:(AX s).1.2.length≤400:=(Pf hn).1.1;have hall:∀q∈(AX s).1.2,pieceN q s.1:=λq hq=>N5 hn hq;obtain⟨l,hl⟩:∃l,(AX s).1.2=l:=⟨_,rfl⟩;rw[hl]at hE hlen hall⊢;refine Lp.iter l.length (λi z=>z=(i:Int)∧Cm (Bc s.1.toNat) l=Cm (Bc s.1.toNat) (l.drop i)) ⟨rfl,rfl⟩ ?_;rintro i z hi⟨rfl,hz⟩R hR;by_cases e:i<l.length
  ·have e':(i:Int)<((l.length:Nat):Int):=by omega
   rw[ZGB e',ZGC,ZGD];have hq:=hall _ (AV (d:=[]) e);rw[VP e]at hz;obtain⟨q,I0⟩:∃q,l.getD i []=q:=⟨_,rfl⟩;rw[I0]at hq hz⊢;rw[show Bj.fn (q,s.1,())=Bc s.1.toNat q from rfl];obtain⟨r,hr⟩:∃r,Bc s.1.toNat q=r:=⟨_,rfl⟩;rw[hr]at hz⊢;refine⟨⟨by omega,e'⟩,hq,λh=>⟨h,trivial⟩,λh=>by rw[h];rfl,?_⟩;by_cases hc:r.1=true∨r.2≠0;·rw[ZGE hc]at hz;rw[show(r.1||r.2 !=0)=true by rw[ZHn,ZKk];exact hc,ZGC,hE,hz,ZGE hc]
   ·rw[ZGA hc]at hz;rw[show(r.1||r.2 !=0)=false by rw[ZJ4,ZJy,ZHn,ZKk];exact hc,ZF9];exact⟨⟨by omega,by omega⟩,hR e _ ⟨by omega,hz⟩⟩
  ·have :i=l.length:=by omega
   subst this;rw[ZHN]at hz;rw[ZGF (ZGH _),ZF9,hE,hz,ZGA];rintro(h|h);·cases h
   ·exact h rfl
 ·rw[bne_iff_ne.2 hn,ZGC];unfold DW;rw[ZGA (by rw[hval];simp),ZGE hn]
def BF.wp(Q:Bool→Prop):Prop:=let v2:=DU.fn ((2,[[(1,(0,([-1,2],0)))]]),(1,()));let v4:=Et.fn (v2.1,((1,[HT.fn (2,(0,()))]),()));let v9:=DU.fn ((2,[[GL.fn (0,([-1,3],())),GL.fn (1,([1,-3],()))]]),(1,()));let v12:=Et.fn (v9.1,((1,[HT.fn (3,(0,())),HT.fn (3,(1,()))]),()));let v14:=Aw.fn ((1,[[GL.fn (0,([1],()))]]),());let v17:=Aw.fn ((1,[[GL.fn (-1,([2],())),GL.fn (1,([-2],()))]]),());((v2.2==0)=true→(v2.2==0)=true∧True)∧((v2.2==0)=true→(v2.2==0)=true∧True)∧((v2.2==0)=true→(v2.2==0)=true∧True)∧((v2.2==0)=true→(v2.2==0)=true∧(v2.2==0)=true∧True)∧((v2.2==0)=true→(v2.2==0)=true)∧(( v2.2==0&&v4)=true→( v2.2==0&&v4)=true∧True)∧(( v2.2==0&&v4)=true→( v2.2==0&&v4)=true)∧(( v2.2==0&&v4&&v9.2==0)=true→( v2.2==0&&v4&&v9.2==0)=true∧True)∧(( v2.2==0&&v4&&v9.2==0)=true→( v2.2==0&&v4&&v9.2==0)=true∧True)∧(( v2.2==0&&v4&&v9.2==0)=true→( v2.2==0&&v4&&v9.2==0)=true∧( v2.2==0&&v4&&v9.2==0)=true∧True)∧(( v2.2==0&&v4&&v9.2==0)=true→( v2.2==0&&v4&&v9.2==0)=true∧True)∧(( v2.2==0&&v4&&v9.2==0)=true→( v2.2==0&&v4&&v9.2==0)=true∧( v2.2==0&&v4&&v9.2==0)=true∧True)∧(( v2.2==0&&v4&&v9.2==0)=true→( v2.2==0&&v4&&v9.2==0)=true)∧(( v2.2==0&&v4&&v9.2==0&&v12)=true→( v2.2==0&&v4&&v9.2==0&&v12)=true∧True)∧(( v2.2==0&&v4&&v9.2==0&&v12)=true→( v2.2==0&&v4&&v9.2==0&&v12)=true)∧(( v2.2==0&&v4&&v9.2==0&&v12&&!v14.1)=true→( v2.2==0&&v4&&v9.2==0&&v12&&!v14.1)=true∧True)∧(( v2.2==0&&v4&&v9.2==0&&v12&&!v14.1)=true→( v2.2==0&&v4&&v9.2==0&&v12&&!v14.1)=true)∧(( v2.2==0&&v4&&v9.2==0&&v12&&!v14.1&&v14.2==0)=true→( v2.2==0&&v4&&v9.2==0&&v12&&!v14.1&&v14.2==0)=true)∧(( v2.2==0&&v4&&v9.2==0&&v12&&!v14.1&&v14.2==0&&v17.1)=true→( v2.2==0&&v4&&v9.2==0&&v12&&!v14.1&&v14.2==0&&v17.1)=true∧True)∧(( v2.2==0&&v4&&v9.2==0&&v12&&!v14.1&&v14.2==0&&v17.1)=true→( v2.2==0&&v4&&v9.2==0&&v12&&!v14.1&&v14.2==0&&v17.1)=true)∧Q ( v2.2==0&&v4&&v9.2==0&&v12&&!v14.1&&v14.2==0&&v17.1&&v17.2==0)
def Fp.wp(x0:List O)(Q:List O→Prop):Prop:=(0≤(x0.length:Int)∧x0.length≤(x0.length:Int)∧x0.length*((48:Nat):Int)≤140737488355328∧(x0.length:Int)≤9223372036854775807)∧Lp (σ:=Int×List O) (λy2 R2=>let v2:=x0.getD y2.1.toNat U;cond (decide (y2.1<x0.length)) ((0≤y2.1∧y2.1<x0.length)∧v2.2.2.1.length*8≤140737488355328∧(0≤y2.1∧y2.1<y2.2.length)∧Int.toNat y2.1<y2.2.length∧AA .i64 (y2.1+1)∧R2 ( y2.1+1,List.set y2.2 y2.1.toNat v2)) (Q y2.2)) (0,.replicate (Int.toNat x0.length) U)
def Ft.wp(x0:Int×List (List O))(x1:List Int)(Q:(Int×List (List O))×Int→Prop):Prop:=cond (! Cu.fn (x0,())) (Q ((0,([]:List (List O))),1)) (Lp (σ:=Int×List Bool) (λy3 R3=>let v0:=x1.getD y3.1.toNat 0;cond (decide (y3.1<x1.length)) ((0≤y3.1∧y3.1<x1.length)∧((! decide (v0<0))=true→(! decide (v0<0))=true∧True)∧((! decide (v0<0))=true→(! decide (v0<0))=true∧(! decide (v0<0))=true∧True)∧(decide (v0<0)=false→(! decide (v0<0))=true)∧((!(decide (v0<0)||decide (x0.1≤v0)))=true→(!(decide (v0<0)||decide (x0.1≤v0)))=true∧0≤v0∧v0<((12:Nat):Int))∧((!(decide (v0<0)||decide (x0.1≤v0)))=true→(!(decide (v0<0)||decide (x0.1≤v0)))=true∧Int.toNat v0<y3.2.length)∧((decide (v0<0)||decide (x0.1≤v0))=false→(!(decide (v0<0)||decide (x0.1≤v0)))=true)∧cond ( decide (v0<0)||decide (x0.1≤v0)||y3.2.getD v0.toNat false) (Q ((0,([]:List (List O))),6)) ((0≤v0∧v0<((12:Nat):Int))∧Int.toNat v0<y3.2.length∧AA .i64 (y3.1+1)∧R3 ( y3.1+1,List.set y3.2 v0.toNat true))) (Lp (σ:=Int×Int×List (List O)) (λy5 R5=>let v3:=x0.2.getD y5.1.toNat ([]:List O);let v4:=List.length [Fp.fn (v3,())];cond (decide (y5.1<x0.2.length)) ((0≤y5.1∧y5.1<x0.2.length)∧Fp.pre (v3,())∧((y5.2.2.length+v4)*24≤140737488355328∧y5.2.2.length+v4≤9223372036854775807)∧AA .i64 (y5.1+1)∧R5 ( y5.1+1,(y5.2.1,y5.2.2++[Fp.fn (v3,())]))) (AA .i64 (x0.1-1)∧Lp (σ:=Int×Int×List (List O)) (λy7 R7=>let v6:=DU.fn (y7.2,(y7.1,()));cond (decide (0≤y7.1)) ((0≤y7.1∧y7.1<((12:Nat):Int))∧Int.toNat y7.1<y3.2.length∧cond (y3.2.getD y7.1.toNat false) (cond (v6.2 !=0) (Q ((0,([]:List (List O))),v6.2)) (AA .i64 (y7.1-1)∧R7 ( y7.1-1,v6.1))) (AA .i64 (y7.1-1)∧R7 ( y7.1-1,y7.2))) (Q (y7.2,0))) ( x0.1-1,y5.2))) (0,(x0.1,([]:List (List O)))))) (0,List.replicate 12 false))
def G5.wp(x0:Int×List (List O))(x1:List Int)(Q:(Int×List (List O))×Int→Prop):Prop:=cond (! CO.fn (x0,())) (Q ((0,([]:List (List O))),1)) ((0≤x0.1∧x0.1≤x0.1∧x0.1*((1:Nat):Int)≤140737488355328∧x0.1≤9223372036854775807)∧Lp (σ:=Int×List Bool) (λy3 R3=>let v1:=x1.getD y3.1.toNat 0;cond (decide (y3.1<x1.length)) ((0≤y3.1∧y3.1<x1.length)∧((! decide (v1<0))=true→(! decide (v1<0))=true∧True)∧((! decide (v1<0))=true→(! decide (v1<0))=true∧(! decide (v1<0))=true∧True)∧(decide (v1<0)=false→(! decide (v1<0))=true)∧((!(decide (v1<0)||decide (x0.1≤v1)))=true→(!(decide (v1<0)||decide (x0.1≤v1)))=true∧(!(decide (v1<0)||decide (x0.1≤v1)))=true∧0≤v1∧v1<y3.2.length)∧((!(decide (v1<0)||decide (x0.1≤v1)))=true→(!(decide (v1<0)||decide (x0.1≤v1)))=true∧Int.toNat v1<y3.2.length)∧((decide (v1<0)||decide (x0.1≤v1))=false→(!(decide (v1<0)||decide (x0.1≤v1)))=true)∧cond ( decide (v1<0)||decide (x0.1≤v1)||y3.2.getD v1.toNat false) (Q ((0,([]:List (List O))),6)) ((0≤v1∧v1<y3.2.length)∧Int.toNat v1<y3.2.length∧AA .i64 (y3.1+1)∧R3 ( y3.1+1,List.set y3.2 v1.toNat true))) (AA .i64 (x0.1-1)∧Lp (σ:=Int×Int×Int×List (List O)) (λy5 R5=>let v4:=y3.2.getD y5.1.toNat false;let v5:=GZ.fn (y5.2.2,(y5.1,()));cond (decide (0≤y5.1)) ((0≤y5.1∧y5.1<y3.2.length)∧Int.toNat y5.1<y3.2.length∧(v4=true→v4=true∧True)∧(v4=true→v4=true)∧cond (v4&&y5.2.1==0) (AA .i64 (y5.1-1)∧R5 ( y5.1-1,(v5.2,v5.1))) (AA .i64 (y5.1-1)∧R5 ( y5.1-1,y5.2))) (Q (y5.2.2,y5.2.1))) ( x0.1-1,(0,x0)))) (0,.replicate x0.1.toNat false))
def Gi.wp(x0:Int×List (List O))(x1:Int)(Q:(Int×List (List O))×Int→Prop):Prop:=cond (! Cu.fn (x0,())) (Q ((0,([]:List (List O))),1)) (((! decide (x1<0))=true→(! decide (x1<0))=true∧True)∧((! decide (x1<0))=true→(! decide (x1<0))=true∧(! decide (x1<0))=true∧True)∧(decide (x1<0)=false→(! decide (x1<0))=true)∧cond (decide (x1<0)||decide (x0.1<x1)) (Q ((0,([]:List (List O))),6)) (Lp (λy3 R3=>cond (decide (y3.1<x0.1)) (((y3.2.length+List.length [y3.1])*8≤140737488355328∧y3.2.length+List.length [y3.1]≤9223372036854775807)∧AA .i64 (y3.1+1)∧R3 ( y3.1+1,y3.2++[y3.1])) (Q (Ft.fn (x0,(y3.2,()))))) (x1,([]:List Int))))
def Ia.wp(x0:Int×List (List O))(x1:Int)(Q:(Int×List (List O))×Int→Prop):Prop:=cond (! CO.fn (x0,())) (Q ((0,([]:List (List O))),1)) (((! decide (x1<0))=true→(! decide (x1<0))=true∧True)∧((! decide (x1<0))=true→(! decide (x1<0))=true∧(! decide (x1<0))=true∧True)∧(decide (x1<0)=false→(! decide (x1<0))=true)∧cond (decide (x1<0)||decide (x0.1<x1)) (Q ((0,([]:List (List O))),6)) (Lp (λy3 R3=>cond (decide (y3.1<x0.1)) (((y3.2.length+List.length [y3.1])*8≤140737488355328∧y3.2.length+List.length [y3.1]≤9223372036854775807)∧AA .i64 (y3.1+1)∧R3 ( y3.1+1,y3.2++[y3.1])) (Q (G5.fn (x0,(y3.2,()))))) (x1,([]:List Int))))
def law05_ElimMany.wp(x0:Int×List (List O))(x1:List Int)(x2:Int)(Q:Bool→Prop):Prop:=let v0:=Br.fn (3,(6,(4,([x0],()))));let v1:=Ft.fn (x0,(x1,()));let v2:=G5.fn (x0,(x1,()));let v3:=F0.fn (v1.1,(v1.2,(v2.1,(v2.2,()))));let v4:=Gi.fn (x0,(x2,()));let v5:=Ia.fn (x0,(x2,()));let v6:=F0.fn (v4.1,(v4.2,(v5.1,(v5.2,()))));((! !v0)=true→(! !v0)=true∧True)∧((! !v0)=true→(! !v0)=true∧True)∧((!v0)=false→(! !v0)=true)∧cond ( !v0||decide (100<(x1.length:Int))) (Q (BF.fn ())) ((v3=true→v3=true∧v3=true∧v3=true∧v3=true∧True)∧(v3=true→v3=true)∧((v3&&v6)=true→(v3&&v6)=true)∧Q ( v3&&v6&&BF.fn ()))
def law05_ElimInside.wp(x0:Int×List (List O))(x1:Int×List (List O))(x2:List Int)(Q:Bool→Prop):Prop:=let v1:=EQ.fn (x0,(x1,()));let v2:=Cs.fn (x0,(x2,()));let v3:=Cs.fn (x1,(x2,()));let v4:=F9.fn (x0,(x1,()));cond (! Br.fn (4,(4,(3,([x0,x1],()))))) (Q (BF.fn ())) (( ! v1.2 !=0=true→! v1.2 !=0=true∧True)∧( ! v1.2 !=0=true→! v1.2 !=0=true∧True)∧((! v1.2 !=0)=true→! v1.2 !=0=true∧! v1.2 !=0=true∧True)∧((v1.2 !=0)=false→! v1.2 !=0=true)∧((!( v1.2 !=0||x2.length !=x0.1))=true→(!( v1.2 !=0||x2.length !=x0.1))=true∧True)∧((!( v1.2 !=0||x2.length !=x0.1))=true→(!( v1.2 !=0||x2.length !=x0.1))=true∧True)∧(( v1.2 !=0||x2.length !=x0.1)=false→(!( v1.2 !=0||x2.length !=x0.1))=true)∧cond ( v1.2 !=0||x2.length !=x0.1||! Es.fn (x2,())) (Q (BF.fn ())) (Cs.pre (x0,(x2,()))∧Cs.pre (x1,(x2,()))∧((! !v1.1)=true→(! !v1.1)=true∧True)∧((!v1.1)=false→(! !v1.1)=true)∧(( !v1.1||!v2)=false→(!( !v1.1||!v2))=true)∧(( !v1.1||!v2||v3)=true→( !v1.1||!v2||v3)=true∧True)∧(( !v1.1||!v2||v3)=true→( !v1.1||!v2||v3)=true∧True)∧((( !v1.1||!v2||v3)&&! v4.2 !=0)=true→(( !v1.1||!v2||v3)&&! v4.2 !=0)=true∧True)∧(( !v1.1||!v2||v3)=true→( !v1.1||!v2||v3)=true∧((v4.2 !=0)=false→(( !v1.1||!v2||v3)&&! v4.2 !=0)=true))∧(( !v1.1||!v2||v3)=true→( !v1.1||!v2||v3)=true∧True)∧((( !v1.1||!v2||v3)&&!( v4.2 !=0||!v4.1))=true→(( !v1.1||!v2||v3)&&!( v4.2 !=0||!v4.1))=true∧True)∧((( !v1.1||!v2||v3)&&!( v4.2 !=0||!v4.1)&&v1.1)=true→(( !v1.1||!v2||v3)&&!( v4.2 !=0||!v4.1)&&v1.1)=true∧(( !v1.1||!v2||v3)&&!( v4.2 !=0||!v4.1)&&v1.1)=true∧True)∧((( !v1.1||!v2||v3)&&!( v4.2 !=0||!v4.1))=true→(( !v1.1||!v2||v3)&&!( v4.2 !=0||!v4.1))=true∧(v1.1=true→(( !v1.1||!v2||v3)&&!( v4.2 !=0||!v4.1)&&v1.1)=true))∧(( !v1.1||!v2||v3)=true→( !v1.1||!v2||v3)=true∧(( v4.2 !=0||!v4.1)=false→(( !v1.1||!v2||v3)&&!( v4.2 !=0||!v4.1))=true))∧(( !v1.1||!v2||v3)=true→( !v1.1||!v2||v3)=true)∧((( !v1.1||!v2||v3)&&( v4.2 !=0||!v4.1||v1.1&&v2==v3))=true→(( !v1.1||!v2||v3)&&( v4.2 !=0||!v4.1||v1.1&&v2==v3))=true)∧Q (( !v1.1||!v2||v3)&&( v4.2 !=0||!v4.1||v1.1&&v2==v3)&&BF.fn ())))
def law05_ElimOrder.wp(x0:Int×List (List O))(x1:Int)(x2:Int)(x3:List Int)(Q:Bool→Prop):Prop:=let v0:=Br.fn (3,(6,(4,([x0],()))));let v1:=DU.fn (x0,(x1,()));let v2:=DU.fn (x0,(x2,()));let v3:=DU.fn (v1.1,( x2-1,()));let v4:=DU.fn (v2.1,(x1,()));let v5:=Cs.fn (v3.1,(x3,()));let v6:=Cs.fn (v4.1,(x3,()));let v7:=Ft.fn (x0,([x1,x2],()));let v8:=Et.fn (v4.1,(v7.1,()));((! !v0)=true→(! !v0)=true∧True)∧((!v0)=false→(! !v0)=true)∧((!( !v0||decide (x1<0)))=true→(!( !v0||decide (x1<0)))=true∧(!( !v0||decide (x1<0)))=true∧True)∧(( !v0||decide (x1<0))=false→(!( !v0||decide (x1<0)))=true)∧((!( !v0||decide (x1<0)||decide (x2≤x1)))=true→(!( !v0||decide (x1<0)||decide (x2≤x1)))=true∧True)∧((!( !v0||decide (x1<0)||decide (x2≤x1)))=true→(!( !v0||decide (x1<0)||decide (x2≤x1)))=true∧(!( !v0||decide (x1<0)||decide (x2≤x1)))=true∧True)∧(( !v0||decide (x1<0)||decide (x2≤x1))=false→(!( !v0||decide (x1<0)||decide (x2≤x1)))=true)∧cond ( !v0||decide (x1<0)||decide (x2≤x1)||decide (x0.1≤x2)) (Q (BF.fn ())) (( ! v1.2 !=0=true→! v1.2 !=0=true∧True)∧((v1.2 !=0)=false→! v1.2 !=0=true)∧cond ( v1.2 !=0||v2.2 !=0) (Q (BF.fn ())) (AA .i64 (x2-1)∧( ! v3.2 !=0=true→(! v3.2 !=0)=true∧True)∧((v3.2 !=0)=false→(! v3.2 !=0)=true)∧((!( v3.2 !=0||v4.2 !=0))=true→(!( v3.2 !=0||v4.2 !=0))=true∧True)∧((!( v3.2 !=0||v4.2 !=0))=true→(!( v3.2 !=0||v4.2 !=0))=true∧True)∧((!( v3.2 !=0||v4.2 !=0))=true→(!( v3.2 !=0||v4.2 !=0))=true∧AA .i64 (x0.1-2))∧((!( v3.2 !=0||v4.2 !=0))=true→(!( v3.2 !=0||v4.2 !=0))=true∧(!( v3.2 !=0||v4.2 !=0))=true∧True)∧(( v3.2 !=0||v4.2 !=0)=false→(!( v3.2 !=0||v4.2 !=0))=true)∧((!( v3.2 !=0||v4.2 !=0||x3.length !=x0.1-2))=true→(!( v3.2 !=0||v4.2 !=0||x3.length !=x0.1-2))=true∧True)∧((!( v3.2 !=0||v4.2 !=0||x3.length !=x0.1-2))=true→(!( v3.2 !=0||v4.2 !=0||x3.length !=x0.1-2))=true∧True)∧(( v3.2 !=0||v4.2 !=0||x3.length !=x0.1-2)=false→(!( v3.2 !=0||v4.2 !=0||x3.length !=x0.1-2))=true)∧cond ( v3.2 !=0||v4.2 !=0||x3.length !=x0.1-2||! Es.fn (x3,())) (Q (BF.fn ())) (Cs.pre (v3.1,(x3,()))∧Cs.pre (v4.1,(x3,()))∧((v5==v6)=true→(v5==v6)=true∧True)∧((v5==v6)=true→(v5==v6)=true)∧(( v5==v6&&v7.2==0)=true→( v5==v6&&v7.2==0)=true∧( v5==v6&&v7.2==0)=true∧True)∧(( v5==v6&&v7.2==0)=true→( v5==v6&&v7.2==0)=true)∧(( v5==v6&&v7.2==0&&v8)=true→( v5==v6&&v7.2==0&&v8)=true)∧Q ( v5==v6&&v7.2==0&&v8&&BF.fn ()))))
theorem xG:Ar (2,[[(1,0,[-1,2],0)]]) 1=((1,[[(2,2,[1],0)]]),0):=by kernel_rfl
theorem xH:Ar (2,[[(0,0,[-1,3],0),(0,0,[1,-3],1)]]) 1=((1,[[(2,3,[1],0)],[(2,3,[1],1)]]),0):=by kernel_rfl
theorem xI:DW (1,[[(0,0,[1],0)]])=(false,0):=by kernel_rfl
theorem xJ:DW (1,[[(0,0,[2],-1),(0,0,[-2],1)]])=(true,0):=by kernel_rfl
theorem BF.spec:BF.wp λr=>r=BF.fn ():=by simp only[BF.wp,DU.fn,Aw.fn,GL.fn,HT.fn,Et.fn,xG,xH,xI,xJ,BF.fn];simp
theorem GL.spec(k:Int)(l:List Int):GL.wp k l λr=>r=GL.fn (k,l,()):=rfl
theorem HT.spec(m k:Int):HT.wp m k λr=>r=HT.fn (m,k,()):=rfl
theorem F0.spec(a:AM)(b:Int)(c:AM)(d:Int):F0.wp a b c d λr=>r=F0.fn (a,b,c,d,()):=by
 simp only[F0.wp,F0.fn,Et.fn];refine⟨λh=>⟨h,h,trivial⟩,λh=>h,?_⟩;by_cases e:b=d;·simp[e]
 ·simp[e]
theorem ZD9{p:List O}{n:Int}(hn:¬(n<1∨12<n))(h2:(Ed p n).2.2=0)(h3:¬(Ed p n).2.1=true):pieceN (Ed p n).1 n:=by
 unfold Ed at*;rw[ZGA (by omega)]at*;split at h2;·cases h2
 ·rename_i hl;rw[ZGA hl]at h3⊢;split at h2;·cases h2
  ·rename_i hv;rw[ZGA hv]at h3⊢;split at h2;·cases h2
   ·rename_i ho;rw[ZGA ho]at h3⊢;have hv':∀c∈p,AG c=true:=λc hc=>by cases h:AG c with|true=>rfl|false=>exact absurd (List.any_eq_true.2 ⟨c,hc,by rw[h];rfl⟩) hv
    have hd:A3 p n.toNat:=λc hc=>by
     have h4:GS p n=true:=by simpa using ho
     unfold GS at h4;have h5:=List.all_eq_true.1 h4 c hc;simp at h5;omega
    have hB:BN p∧A3 p n.toNat:=⟨⟨by omega,λc hc=>AG.condB (hv' c hc)⟩,hd⟩;have hs:Bg [p]=some [(Af p).1]:=by
     show[p].foldlM BT []=_;rw[ZGc];have :BT [] p=some [(Af p).1]:=by unfold BT;rw[ZGA λh=>h h2,ZGA λh=>h.elim h3 (λh=>by cases h),ZGA (by simp)];rfl
     rw[this];rfl
    have :=(PD.of_tid (n:=n.toNat) (λq hq=>by simp only[ZGT]at hq;subst hq;exact hB) hs).1.pieceN (by omega) (List.mem_singleton.2 rfl);rwa[ZHD (by omega)]at this
theorem Gj.spec(p:List O)(n:Int):Gj.wp p n λr=>r=Gj.fn (p,n,()):=by
 unfold Gj.wp;dsimp only;rw[show Hh.fn (p,n,())=Ed p n from rfl,show Gj.fn (p,n,())=VB p n from rfl];refine⟨λh=>⟨h,trivial⟩,λh=>by rw[h];rfl,?_⟩;unfold VB;by_cases h1:n<1∨12<n;·rw[show(decide (n<1)||decide (12<n))=true by rw[←ZIb,ZGB h1],ZGC,ZGE h1]
 ·rw[show(decide (n<1)||decide (12<n))=false by rw[←ZIb,ZGF h1],ZF9,ZGA h1];by_cases h2:(Ed p n).2.2=0
  ·rw[show((Ed p n).2.2 !=0)=false by rw[h2];rfl,ZF9,ZGA λh=>h h2];by_cases h3:(Ed p n).2.1=true;·rw[h3,ZGC,ZGE rfl]
   ·rw[show(Ed p n).2.1=false by simpa using h3,ZF9,ZGA (by simp)];exact⟨ZD9 h1 h2 h3,rfl⟩
  ·rw[bne_iff_ne.2 h2,ZGC,ZGE h2]
theorem Ib.spec(p:List O)(n:Int):Ib.wp p n λr=>r=Ib.fn (p,n,()):=Gj.spec p n
theorem EQ.spec(a b:AM):EQ.wp a b λr=>r=EQ.fn (a,b,()):=by
 unfold EQ.wp;dsimp only;rw[show Hg.fn (a,b,())=D8 a b from rfl,show EQ.fn (a,b,())=CS a b from rfl];unfold CS;by_cases h:(D8 a b).2=0;·rw[show((D8 a b).2 !=0)=false by rw[h];rfl,ZF9,ZGA λh'=>h' h]
 ·rw[bne_iff_ne.2 h,ZGC,ZGE h]
theorem Ga.spec(a b:AM):Ga.wp a b λr=>r=Ga.fn (a,b,()):=EQ.spec a b
theorem F9.spec(a b:AM):F9.wp a b λr=>r=F9.fn (a,b,()):=by
 unfold F9.wp;dsimp only;rw[show EQ.fn (a,b,())=CS a b from rfl,show EQ.fn (b,a,())=CS b a from rfl,show F9.fn (a,b,())=Jd a b from rfl];refine⟨λh=>⟨h,trivial⟩,λh=>by rw[h];rfl,?_⟩;unfold Jd;by_cases h:(CS a b).2≠0∨(CS a b).1=false;·rw[show((CS a b).2 !=0||!(CS a b).1)=true by simpa using h,ZGC,ZGE h]
 ·rw[show((CS a b).2 !=0||!(CS a b).1)=false by simpa using h,ZF9,ZGA h]
theorem He.spec(a b:AM):He.wp a b λr=>r=He.fn (a,b,()):=by
 unfold He.wp;dsimp only;rw[show Ga.fn (a,b,())=CS a b from rfl,show Ga.fn (b,a,())=CS b a from rfl,show He.fn (a,b,())=Jd a b from rfl];refine⟨λh=>⟨h,trivial⟩,λh=>by rw[h];rfl,?_⟩;unfold Jd;by_cases h:(CS a b).2≠0∨(CS a b).1=false;·rw[show( !(CS a b).1||(CS a b).2 !=0)=true by simpa[or_comm]using h,ZGC,ZGE h]
 ·rw[show( !(CS a b).1||(CS a b).2 !=0)=false by simpa[and_comm]using h,ZF9,ZGA h]
theorem nY(a:AM×Int):F0.fn (a.1,a.2,a.1,a.2,())=true:=by simp[F0.fn]
theorem law05_ElimShadows.spec(s:AM)(v:Int):law05_ElimShadows.wp s v λr=>r=true:=by simp only[law05_ElimShadows.wp,DU.fn,GZ.fn,nY,BF.fn];cases CH.fn _<;>simp
theorem law05_ElimEmpty.spec(s:AM):law05_ElimEmpty.wp s λr=>r=true:=by simp only[law05_ElimEmpty.wp,Aw.fn,Do.fn,BF.fn];cases Br.fn _<;>simp
theorem law05_ElimPicks.spec(p:List O)(n:Int):law05_ElimPicks.wp p n λr=>r=true:=by simp only[law05_ElimPicks.wp,Gj.fn,Ib.fn,BF.fn];cases decide (400<((p.length:Nat):Int))<;>simp
theorem law05_ElimWithin.spec(a b:AM):law05_ElimWithin.wp a b λr=>r=true:=by simp only[law05_ElimWithin.wp,EQ.fn,Ga.fn,F9.fn,He.fn,BF.fn];cases Br.fn _<;>simp
theorem Br.spec(pi co va:Int)(l:List AM)(hl:l.length≤9223372036854775807)(hs:∀s∈l,s.2.length≤9223372036854775807∧∀p∈s.2,p.length≤9223372036854775807∧∀c∈p,c.2.2.1.length≤9223372036854775807):Br.wp pi co va l λr=>r=Br.fn (pi,co,va,l,()):=by unfold Br.wp;dsimp only;rw[show Br.fn (pi,co,va,l,())=ZV pi co va l from rfl];unfold ZV;cases hF:CH.fn (pi,co,l,())with|false=>rfl|true=>
 simp only[ZGq,ZF9,ZH2];refine Lp.all l (0,[]) (λs=>!(decide (va<s.1)&&decide (s.1≤12)&&decide (1<Us s))&&s.2.all λp=>p.all λc=>(c.2.2.1.all λn=>!((decide (6<n)||decide (n< -6))&&AY s))&&!(decide (12<c.2.1)&&AY s)) hl (λi R hi hi' hf ht ET=>?_) λR h=>?_
 ·rw[ZGB hi',ZGC,ZGD];refine⟨⟨by omega,hi'⟩,?_⟩;obtain⟨b1,b2⟩:=hs _ (AV (d:=((0,[]):AM)) hi);obtain⟨s,hse⟩:∃s,l.getD i (0,[])=s:=⟨_,rfl⟩;rw[hse]at ht ET b1 b2⊢;refine Lp.foldl s.2 [] (λm p=>max m (p.length:Int)) 0 b1 (λj t R2 hj hj' PB _ BJ=>?_) λR2=>?_;·dsimp only;rw[ZGB hj',ZGC,ZGD];exact⟨⟨by omega,hj'⟩,PB,BJ⟩
  ·dsimp only;rw[ZGF (ZGH _),ZF9];refine⟨λh=>⟨h,trivial⟩,λh=>⟨h,trivial⟩,λh=>h,λh=>⟨h,trivial⟩,λh=>h,?_⟩;rw[show s.2.foldl (λm p=>max m (p.length:Int)) 0=Us s from rfl];cases hA:decide (va<s.1)&&decide (s.1≤12)&&decide (1<Us s)with|true=>exact(ET (by rw[hA];rfl)).symm|false=>
   rw[hA]at ht ET;simp only[ZGz,ZH2]at ht ET;rw[ZF9];refine Lp.all s.2 [] (λp=>p.all λc=>(c.2.2.1.all λn=>!((decide (6<n)||decide (n< -6))&&AY s))&&!(decide (12<c.2.1)&&AY s)) b1 (λj R3 hj hj' hf3 Kq YG=>?_) λR3 h3=>?_
   ·rw[ZGB hj',ZGC,ZGD];refine⟨⟨by omega,hj'⟩,?_⟩;obtain⟨d1,d2⟩:=b2 _ (AV (d:=[]) hj);obtain⟨p,hpe⟩:∃p,s.2.getD j []=p:=⟨_,rfl⟩;rw[hpe]at Kq YG d1 d2⊢;refine Lp.all p U (λc=>(c.2.2.1.all λn=>!((decide (6<n)||decide (n< -6))&&AY s))&&!(decide (12<c.2.1)&&AY s)) d1 (λk R4 hk hk' hf4 mW YH=>?_) λR4 h4=>?_
    ·rw[ZGB hk',ZGC,ZGD];refine⟨⟨by omega,hk'⟩,?_⟩;have e1:=d2 _ (AV (d:=U) hk);obtain⟨c,Iu⟩:∃c,p.getD k U=c:=⟨_,rfl⟩;rw[Iu]at mW YH e1⊢;refine Lp.all c.2.2.1 0 (λn=>!((decide (6<n)||decide (n< -6))&&AY s)) e1 (λm R5 hm hm' hf5 ht5 ZBI=>?_) λR5 h5=>?_;·rw[ZGB hm',ZGC,ZGD];refine⟨⟨by omega,hm'⟩,λh=>⟨h,trivial⟩,λh=>by rw[h];rfl,λh=>⟨h,trivial⟩,λh=>h,?_⟩;rw[show CO.fn (s,())=AY s from rfl];cases hB:(decide (6<c.2.2.1.getD m 0)||decide (c.2.2.1.getD m 0< -6))&&AY s with|true=>rw[ZGC];have g5:=ZBI (by rw[hB];rfl);exact(ET (YG (YH (by rw[g5];rfl)))).symm|false=>rw[ZF9];exact⟨hf5,ht5 (by rw[hB];rfl)⟩
     ·rw[ZGF (ZGH _),ZF9];refine⟨λh=>⟨h,trivial⟩,λh=>h,?_⟩;rw[show CO.fn (s,())=AY s from rfl];cases hB:decide (12<c.2.1)&&AY s with|true=>rw[ZGC];exact(ET (YG (YH (by rw[hB,ZGq,ZJA])))).symm|false=>rw[ZF9];exact⟨hf4,mW (by rw[hB,h5];rfl)⟩
    ·rw[ZGF (ZGH _),ZF9];exact⟨hf3,Kq h4⟩
   ·rw[ZGF (ZGH _),ZF9];exact⟨hf,ht h3⟩
 ·rw[ZGF (ZGH _),ZF9];exact h.symm
theorem Fp.spec(p:List O)(hp:Fp.pre (p,())):Fp.wp p λr=>r=Fp.fn (p,()):=by
 obtain⟨h1,h2⟩:p.length≤4096∧∀c∈p,c.2.2.1.length≤4096:=hp;unfold Fp.wp;dsimp only;refine⟨⟨by omega,by omega,by omega,by omega⟩,?_⟩;rw[ZGD];refine Lp.iter p.length (λi y=>y.1=(i:Int)∧y.2.length=p.length∧∀j,j<i→y.2.getD j U=p.getD j U) ⟨rfl,by simp,λj hj=>absurd hj (by omega)⟩ ?_;rintro i⟨y,o⟩hi⟨hy,ho,hd⟩R hR;simp only at hy ho hd;subst hy;dsimp only;by_cases e:i<p.length
 ·rw[ZGB (show(i:Int)<((p.length:Nat):Int)by omega),ZGC,ZGD];have :=h2 _ (AV (d:=U) e);refine⟨⟨by omega,by omega⟩,by omega,⟨by omega,by omega⟩,by omega,⟨by omega,by omega⟩,hR e _ ⟨by simp,by simpa using ho,λj hj=>?_⟩⟩;simp only;by_cases hj2:j=i;·subst hj2;rw[A6 (by rw[ZHr];omega),ZHk]
  ·rw[ZGG,ZIS (by omega),←ZGG];exact hd j (by omega)
 ·have :i=p.length:=by omega
  subst this;rw[ZGF (ZGH _),ZF9];refine ZHR ho λj h1 h2=>?_;have :=hd j h2;rwa[A6 h1,A6 h2]at this
abbrev KQ:Ty:=.pair (.int .i64) (.pair (.int .i64) (.pair (.sl (.int .i64)) (.int .i64)))
def WC(T:Ty):V→Option (List T.den)|.d (.sl t) l=>if h:t=T then some (h▸l)else none|_=>none
theorem wZ{T:Ty}{v:V}{l:List T.den}(h:WC T v=some l):v=.d (.sl T) l:=by
 unfold WC at h;split at h
 ·split at h;·rename_i e;subst e;cases h;rfl
  ·cases h
 ·cases h
theorem ZC8{k:IntKind}{v:V}{n:Int}(h:Pg k [v]=some n):v=.d (.int k) n:=by
 unfold Pg at h;split at h
 ·rename_i k' m e;cases e;split at h;·rename_i e2;have :=UZ e2;subst this;cases h;rfl
  ·cases h
 ·cases h
def WF(g:Nat)(vs:List V)(os:AH):Option (List Nat×(Ty.den (.sl KQ)×Int)×(ByteArray→Option Bool)):=match vs with
 |[p,n,.ref a 0,.ref b 0]=>match WC KQ p with
  |some p=>match Pg .i64 [n]with
   |some n=>match AB a os with
    |some (.box [.map m])=>match AB b os with
     |some (.box [.fn (.func h) [] [.ref c 0,.ref d 0]])=>match Nat.beq h g&&(Nat.beq c a&&Nat.beq d b)with
      |true=>match AB m os with|some (.smap .bool f)=>some ([a,b,m],(p,n),f)|_=>none
      |false=>none
     |_=>none
    |_=>none
   |none=>none
  |none=>none
 |_=>none
def WD(g:Nat)(os:AH):Option (ByteArray→Option Bool):=match AB 0 os with
 |some (.box [.map 2])=>match AB 1 os with
  |some (.box [.fn (.func h) [] [.ref 0 0,.ref 1 0]])=>match Nat.beq h g with
   |true=>match AB 2 os with|some (.smap .bool f)=>some f|_=>none
   |false=>none
  |_=>none
 |_=>none
def Jm(g:Nat)(pre:Ty.den (.sl KQ)×Int→(ByteArray→Option Bool)→Prop)(post:Ty.den (.sl KQ)×Int→(ByteArray→Option Bool)→Bool×Int→(ByteArray→Option Bool)→Prop):Ih:=⟨Ty.den (.sl KQ)×Int,ByteArray→Option Bool,[.bool,.int .i64],3,λa=>[.d (.sl KQ) a.1,.d (.int .i64) a.2,.ref 0 0,.ref 1 0],λf=>[(0,.box [.map 2]),(1,.box [.fn (.func g) [] [.ref 0 0,.ref 1 0]]),(2,.smap .bool f)],WF g,WD g,pre,post,[2,0],[2]⟩
theorem WE(g:Nat)(pre:Ty.den (.sl KQ)×Int→(ByteArray→Option Bool)→Prop)(post:Ty.den (.sl KQ)×Int→(ByteArray→Option Bool)→Bool×Int→(ByteArray→Option Bool)→Prop):(Jm g pre post).Law where
 get:=by
  intro vs os ks a b h;change WF g vs os=some (ks,a,b)at h;unfold WF at h;split at h
  ·rename_i p n A B;split at h
   ·rename_i p' hp;split at h
    ·rename_i n' hn;split at h
     ·rename_i m hA;split at h
      ·rename_i h' c d hB;split at h
       ·rename_i hE;split at h
        ·rename_i f hM;cases h;have hp:=wZ hp;have hn:=ZC8 hn;subst hp hn;rw[ZGW,ZGW]at hE;obtain⟨e1,e2,e3⟩:=hE;have e1:=ZGJ e1;have e2:=ZGJ e2;have e3:=ZGJ e3;subst e1 e2 e3;have n1:c≠d:=λe=>by subst e;rw[hA]at hB;cases hB
         have n2:m≠c:=λe=>by subst e;rw[hA]at hM;cases hM
         have n3:m≠d:=λe=>by subst e;rw[hB]at hM;cases hM
         have nb:∀{x y:Nat},x≠y→Nat.beq x y=false:=λ{x y}h=>by cases e:Nat.beq x y with|false=>rfl|true=>exact absurd (ZGJ e) h
         have b1:=nb n1;have b2:=nb n2.symm;have b3:=nb n3.symm;refine⟨?_,rfl,by simp[n1,n2.symm,n3.symm],?_⟩;·simp[DI,V.subst,Jh,V.key,I2,V.rekey,Jm,b1]
         ·intro i l hl;match i,hl with
          |0,hl=>cases hl;refine⟨_,hA,?_,λh=>absurd (show 0∈[2,0]by decide) h⟩;simp[Obj.subst,DI,V.subst,Jh,V.key,I2,V.rekey,Jm,AB,b2,b3]|1,hl=>
           cases hl;refine⟨_,hB,?_,λ_=>?_⟩;·simp[Obj.subst,DI,V.subst,Jh,V.key,I2,V.rekey,Jm,AB,b1]
           ·simp[Obj.subst,DI,V.subst,Jh,Mp,V.key,I2,V.rekey,b1]|2,hl=>cases hl;refine⟨_,hM,rfl,λh=>absurd (show 2∈[2,0]by decide) h⟩|k+3,hl=>cases hl
        ·cases h
       ·cases h
      ·cases h
     ·cases h
    ·cases h
   ·cases h
  ·cases h
 dom:=by intro b i o h;show i<3;match i with|0|1|2=>decide|k+3=>cases h
 back:=by
  intro os b h;change WD g os=some b at h;unfold WD at h;split at h
  ·rename_i h0;split at h
   ·rename_i h' h1;split at h
    ·rename_i hE;split at h;·rename_i f h2;cases h;have :=ZGJ hE;subst this;intro i hi;match i,hi with|0,_=>exact h0|1,_=>exact h1|2,_=>exact h2
     ·cases h
    ·cases h
   ·cases h
  ·cases h
 same:=by intro b b' i hi;match i,hi with|0,hi=>exact absurd (show 0∈[2,0]by decide) hi|1,_=>rfl|2,hi=>exact absurd (show 2∈[2,0]by decide) hi|k+3,_=>rfl
 ch:=show∀i∈[2,0],i<3 by decide
 mv:=show∀i∈[2],i∈[2,0]by decide
theorem xA(a:Ty.den (.sl KQ)×Int)(b:ByteArray→Option Bool):¬LD 0 a b:=λh=>by have h1:(0:Int)≤a.2:=h.1.1.2.2.1;have h2:a.2<((0:Nat):Int):=h.2;omega
theorem xB(a:Ty.den (.sl KQ)×Int)(b:ByteArray→Option Bool)(h:OZ a b):∃N,LD N a b:=⟨a.2.toNat+1,h,by omega⟩
theorem Bj.none(x:List O×Int×Unit):¬Bj.preN 0 x:=λh=>by have h1:(0:Int)≤x.2.1:=h.1.2.2.1;have h2:x.2.1<((0:Nat):Int):=h.2;omega
theorem Bj.some_(x:List O×Int×Unit)(h:Bj.pre x):∃N,Bj.preN N x:=⟨x.2.1.toNat+1,h,by omega⟩
theorem ZAR{s:AM}{v:Int}(h:(Ar s v).2≠0):(Ar s v).1=(0,[]):=by
 unfold Ar at h⊢;split;·rfl
 ·rename_i h1;rw[ZGA h1]at h;split;·rfl
  ·rename_i h2;rw[ZGA h2]at h;split;·rfl
   ·rename_i h3;rw[ZGA h3]at h;rcases CN (Oj s.1 v (AX s).1.2)with e|⟨all,e⟩;·simp only[e]
    ·simp only[e]at h⊢;rcases CN (Bg all)with e2|⟨o,e2⟩;·rw[e2];rfl
     ·rw[e2]at h;exact absurd rfl h
def FH(l:List Int)(v:Nat):Bool:=decide ((v:Int)∈l)
structure Jk(n:Int)(l:List Int)(f:List Bool):Prop where
 ok:H0 n l=true
 is:∀v:Nat,(v:Int)<n→f.getD v false=FH l v
theorem Jk.nil(n:Int)(k:Nat):Jk n [] (List.replicate k false):=by refine⟨by rw[VA];simp,λv _=>?_⟩;unfold FH;rw[ZGG,ZKL];split<;>simp
theorem Jk.put{n:Int}{l:List Int}{f:List Bool}{i:Nat}(h:Jk n (l.take i) f)(e:i<l.length)(h1:0≤l.getD i 0)(h2:l.getD i 0<n)(h3:(l.getD i 0).toNat<f.length)(h4:f.getD (l.getD i 0).toNat false=false):Jk n (l.take (i+1)) (f.set (l.getD i 0).toNat true):=by
 have hv:(((l.getD i 0).toNat:Nat):Int)=l.getD i 0:=ZHD h1;have hni:l.getD i 0∉l.take i:=by have :=h.is (l.getD i 0).toNat (by omega);rw[h4,FH,hv]at this;simpa using this.symm
 refine⟨(qZ h.ok e).2 ⟨⟨h1,h2⟩,hni⟩,λv hvn=>?_⟩;have ht:l.take (i+1)=l.take i++[l.getD i 0]:=B0 0 e;unfold FH;rw[ht];by_cases ev:(l.getD i 0).toNat=v;·subst ev;rw[A6 (by rw[ZHr];exact h3),ZHk];rw[hv];simp
 ·rw[ZGG,ZIS ev,←ZGG,h.is v hvn];unfold FH;have :¬(v:Int)=l.getD i 0:=by omega
  simp only[ZGa,ZGT,this,ZJZ]
theorem Jk.bad{n:Int}{l:List Int}{f:List Bool}{i:Nat}(h:Jk n (l.take i) f)(e:i<l.length)(hb:(l.getD i 0<0∨n≤l.getD i 0)∨f.getD (l.getD i 0).toNat false=true):H0 n l=false:=by
 refine ZDE h.ok e ?_;rintro⟨⟨h1,h2⟩,h3⟩;rcases hb with hb|hb;·omega
 ·have hv:(((l.getD i 0).toNat:Nat):Int)=l.getD i 0:=ZHD h1;have :=h.is (l.getD i 0).toNat (by omega);rw[hb,FH,hv]at this;exact h3 (by simpa using this.symm)
theorem iC{s:AM}{l:List Int}(hv:AY s=true)(hp:H0 s.1 l=false):Io s l=((0,[]),6):=by unfold Io;rw[ZGA (by rw[hv];simp),ZGE hp]
theorem W9{s:AM}{l:List Int}(hv:AY s=true)(hp:H0 s.1 l=true):Io s l=GA (FH l) s.1.toNat s:=by unfold Io;rw[ZGA (by rw[hv];simp),ZGA (by rw[hp];simp)];rfl
theorem Om(on:Nat→Bool)(v:Nat)(s:AM):GA on (v+1) s=if on v=true then if(Ar s (v:Int)).2≠0 then((0,[]),(Ar s (v:Int)).2)else GA on v (Ar s (v:Int)).1 else GA on v s:=rfl
theorem Ft.spec(s:AM)(l:List Int)(hl:l.length≤9223372036854775807):Ft.wp s l λr=>r=Ft.fn (s,l,()):=by unfold Ft.wp;dsimp only;rw[show Ft.fn (s,l,())=Io s l from rfl,show Cu.fn (s,())=AY s from rfl];cases hval:AY s with|false=>simp only[ZGz,ZGC];unfold Io;rw[ZGE hval]|true=>
 have hb:=AY.b hval;simp only[ZGq,ZF9];refine Lp.iter l.length (λi y=>y.1=(i:Int)∧y.2.length=12∧Jk s.1 (l.take i) y.2) ⟨rfl,by simp,Jk.nil _ _⟩ ?_;rintro i⟨y,f⟩hi⟨hy,hf,hon⟩R hR;simp only at hy hf hon;subst hy;dsimp only;by_cases e:i<l.length
 ·have e':(i:Int)<((l.length:Nat):Int):=by omega
  rw[ZGB e',ZGC,ZGD];have EW:=hon.put e;have Ht:=hon.bad e;obtain⟨v,hv⟩:∃v,l.getD i 0=v:=⟨_,rfl⟩;rw[hv]at EW Ht⊢;have Nr:(!(decide (v<0)||decide (s.1≤v)))=true→0≤v∧v<s.1:=λh=>by simp only[ZIl,ZH0,ZHm]at h;omega
  refine⟨⟨by omega,e'⟩,λh=>⟨h,trivial⟩,λh=>⟨h,h,trivial⟩,λh=>by rw[h];rfl,λh=>⟨h,by have :=Nr h;omega,by have :=Nr h;omega⟩,λh=>⟨h,by have :=Nr h;omega⟩,λh=>by rw[h];rfl,?_⟩;by_cases hc:(v<0∨s.1≤v)∨f.getD v.toNat false=true;·rw[show( decide (v<0)||decide (s.1≤v)||f.getD v.toNat false)=true by simpa using hc,ZGC];exact(iC hval (Ht hc)).symm
  ·rw[show( decide (v<0)||decide (s.1≤v)||f.getD v.toNat false)=false by simpa using hc,ZF9];rw[ZGx]at hc;refine⟨⟨by omega,by omega⟩,by omega,⟨by omega,by omega⟩,hR e _ ⟨by simp,by simpa using hf,EW (by omega) (by omega) (by omega) (by simpa using hc.2)⟩⟩
 ·have :i=l.length:=by omega
  subst this;rw[ZGN]at hon;rw[ZGF (ZGH _),ZF9];rw[W9 hval hon.ok];refine Lp.iter s.2.length (λj z=>z.1=(j:Int)∧z.2=(s.1,s.2.take j)) ⟨rfl,rfl⟩ ?_;rintro j⟨z,zs⟩hj⟨hz,Da⟩R2 BJ;simp only at hz Da;subst hz Da;dsimp only;have hlen:=hb.2.2.1;by_cases ej:j<s.2.length
  ·have ej':(j:Int)<((s.2.length:Nat):Int):=by omega
   rw[ZGB ej',ZGC,ZGD];have PQ:=AY.piece hval (AV (d:=[]) ej);rw[show Fp.fn (s.2.getD j [],())=s.2.getD j []from rfl];refine⟨⟨by omega,ej'⟩,⟨by have :=PQ.1;show(s.2.getD j []).length≤_;omega,λc hc=>by have :=(Bo.b (AG.lin (PQ.2 c hc))).1;omega⟩,⟨?_,?_⟩,⟨by omega,by omega⟩,BJ ej _ ⟨by simp,by rw[B0 [] ej]⟩⟩;·simp only[ZGP,ZGL,ZGS];omega
   ·simp only[ZGP,ZGL,ZGS];omega
  ·have :j=s.2.length:=by omega
   subst this;rw[ZGF (ZGH _),ZF9,ZGN];refine⟨⟨by omega,by omega⟩,?_⟩;obtain⟨N,hN⟩:∃N:Nat,s.1=(N:Int):=⟨s.1.toNat,by omega⟩;have C1:N≤12:=by omega
   rw[show((s.1-1,s.1,s.2):Int×AM)=((N:Int)-1,s)by rw[←hN]];rw[hN,ZGD];refine Lp.iter N (λk z=>z.1=(N:Int)-(k:Int)-1∧GA (FH l) N s=GA (FH l) (N-k) z.2) ⟨by simp,rfl⟩ ?_;rintro k⟨z,t⟩hk⟨hz,hg⟩R3 IE;simp only at hz hg;subst hz;dsimp only;by_cases ek:k<N
   ·obtain⟨m,hm⟩:∃m,N-k=m+1:=⟨N-k-1,by omega⟩;have hm':(N:Int)-(k:Int)-1=(m:Int):=by omega
    rw[hm,Om]at hg;rw[hm'];rw[ZGB (show(0:Int)≤(m:Int)by omega),ZGC,ZGD,hon.is m (by omega)];refine⟨⟨by omega,by omega⟩,by omega,?_⟩;have B2:∀u:AM,GA (FH l) N s=GA (FH l) m u→R3 ((m:Int)-1,u):=λu hu=>IE ek _ ⟨by simp only;omega,by rw[hu];congr 1;omega⟩;cases ho:FH l m with
    |true=>
     rw[ho,ZGE rfl]at hg;rw[ZGC,show DU.fn (t,(m:Int),())=Ar t (m:Int)from rfl];by_cases he:(Ar t (m:Int)).2=0;·rw[ZGA λh=>h he]at hg;rw[show((Ar t (m:Int)).2 !=0)=false by rw[he];rfl,ZF9];exact⟨⟨by omega,by omega⟩,B2 _ hg⟩
     ·rw[ZGE he]at hg;rw[bne_iff_ne.2 he,ZGC];exact hg.symm|false=>rw[ho,ZGA (by simp)]at hg;rw[ZF9];exact⟨⟨by omega,by omega⟩,B2 _ hg⟩
   ·have :k=N:=by omega
    subst this;rw[ZGF (by omega),ZF9,hg,ZIr];rfl
theorem G5.spec(s:AM)(l:List Int)(hl:l.length≤9223372036854775807):G5.wp s l λr=>r=G5.fn (s,l,()):=by unfold G5.wp;dsimp only;rw[show G5.fn (s,l,())=Io s l from rfl,show CO.fn (s,())=AY s from rfl];cases hval:AY s with|false=>simp only[ZGz,ZGC];unfold Io;rw[ZGE hval]|true=>
 have hb:=AY.b hval;simp only[ZGq,ZF9];refine⟨⟨by omega,by omega,by omega,by omega⟩,?_⟩;refine Lp.iter l.length (λi y=>y.1=(i:Int)∧y.2.length=s.1.toNat∧Jk s.1 (l.take i) y.2) ⟨rfl,by simp,Jk.nil _ _⟩ ?_;rintro i⟨y,f⟩hi⟨hy,hf,hon⟩R hR;simp only at hy hf hon;subst hy;dsimp only;by_cases e:i<l.length
 ·have e':(i:Int)<((l.length:Nat):Int):=by omega
  rw[ZGB e',ZGC,ZGD];have EW:=hon.put e;have Ht:=hon.bad e;obtain⟨v,hv⟩:∃v,l.getD i 0=v:=⟨_,rfl⟩;rw[hv]at EW Ht⊢;have Nr:(!(decide (v<0)||decide (s.1≤v)))=true→0≤v∧v<s.1:=λh=>by simp only[ZIl,ZH0,ZHm]at h;omega
  refine⟨⟨by omega,e'⟩,λh=>⟨h,trivial⟩,λh=>⟨h,h,trivial⟩,λh=>by rw[h];rfl,λh=>⟨h,h,by have :=Nr h;omega,by have :=Nr h;omega⟩,λh=>⟨h,by have :=Nr h;omega⟩,λh=>by rw[h];rfl,?_⟩;by_cases hc:(v<0∨s.1≤v)∨f.getD v.toNat false=true;·rw[show( decide (v<0)||decide (s.1≤v)||f.getD v.toNat false)=true by simpa using hc,ZGC];exact(iC hval (Ht hc)).symm
  ·rw[show( decide (v<0)||decide (s.1≤v)||f.getD v.toNat false)=false by simpa using hc,ZF9];rw[ZGx]at hc;refine⟨⟨by omega,by omega⟩,by omega,⟨by omega,by omega⟩,hR e _ ⟨by simp,by simpa using hf,EW (by omega) (by omega) (by omega) (by simpa using hc.2)⟩⟩
 ·have :i=l.length:=by omega
  subst this;rw[ZGN]at hon;rw[ZGF (ZGH _),ZF9];rw[W9 hval hon.ok];refine⟨⟨by omega,by omega⟩,?_⟩;obtain⟨N,hN⟩:∃N:Nat,s.1=(N:Int):=⟨s.1.toNat,by omega⟩;have C1:N≤12:=by omega
  rw[hN,ZGD]at hf⊢;refine Lp.iter N (λk z=>z.1=(N:Int)-(k:Int)-1∧GA (FH l) N s=if z.2.1≠0 then(z.2.2,z.2.1)else GA (FH l) (N-k) z.2.2) ⟨by simp,rfl⟩ ?_;rintro k⟨z,r,t⟩hk⟨hz,hg⟩R3 IE;simp only at hz hg;subst hz;dsimp only;by_cases ek:k<N
  ·obtain⟨m,hm⟩:∃m,N-k=m+1:=⟨N-k-1,by omega⟩;have hm':(N:Int)-(k:Int)-1=(m:Int):=by omega
   rw[hm,Om]at hg;rw[hm'];rw[ZGB (show(0:Int)≤(m:Int)by omega),ZGC,ZGD,hon.is m (by omega)];refine⟨⟨by omega,by omega⟩,by omega,λh=>⟨h,trivial⟩,λh=>h,?_⟩;rw[show GZ.fn (t,(m:Int),())=Ar t (m:Int)from rfl];have B2:∀u:Int×AM,(GA (FH l) N s=if u.1≠0 then(u.2,u.1)else GA (FH l) m u.2)→R3 ((m:Int)-1,u):=λu hu=>IE ek _ ⟨by simp only;omega,by rw[hu];congr 2;omega⟩;by_cases hr:r=0;·rw[ZGA λh=>h hr]at hg;rw[show(r==0)=true by rw[hr];rfl,ZIC];cases ho:FH l m with
    |true=>
     rw[ho,ZGE rfl]at hg;rw[ZGC];refine⟨⟨by omega,by omega⟩,B2 _ ?_⟩;rw[hg];by_cases he:(Ar t (m:Int)).2≠0;·rw[ZGE he,ZGE he,ZAR he]
     ·rw[ZGA he,ZGA he]|false=>rw[ho,ZGA (by simp)]at hg;rw[ZF9];exact⟨⟨by omega,by omega⟩,B2 _ (by rw[hg,ZGA λh=>h hr])⟩
   ·rw[ZGE hr]at hg;rw[show(r==0)=false by simpa using hr,ZJA,ZF9];exact⟨⟨by omega,by omega⟩,B2 _ (by rw[hg,ZGE hr])⟩
  ·have :k=N:=by omega
   subst this;rw[ZGF (by omega),ZF9,hg,ZIr];by_cases hr:r=0;·rw[ZGA λh=>h hr,hr];rfl
   ·rw[ZGE hr]
theorem ZCJ(k:Int)(i:Nat):((List.range (i+1)).map λ(j:Nat)=>k+(j:Int))=((List.range i).map λ(j:Nat)=>k+(j:Int))++[k+(i:Int)]:=by rw[ZIT,ZGp];rfl
theorem Gi.spec(s:AM)(k:Int):Gi.wp s k λr=>r=Gi.fn (s,k,()):=by unfold Gi.wp;dsimp only;rw[show Gi.fn (s,k,())=N0 s k from rfl,show Cu.fn (s,())=AY s from rfl];cases hval:AY s with|false=>simp only[ZGz,ZGC];unfold N0;rw[ZGE hval]|true=>
 have hb:=AY.b hval;simp only[ZGq,ZF9];refine⟨λh=>⟨h,trivial⟩,λh=>⟨h,h,trivial⟩,λh=>by rw[h];rfl,?_⟩;by_cases hr:k<0∨s.1<k;·rw[show(decide (k<0)||decide (s.1<k))=true by rw[←ZIb,ZGB hr],ZGC];unfold N0;rw[ZGA (by rw[hval];simp),ZGE hr]
 ·rw[show(decide (k<0)||decide (s.1<k))=false by rw[←ZIb,ZGF hr],ZF9];have hk:N0 s k=Io s ((List.range (s.1-k).toNat).map λ(i:Nat)=>k+(i:Int)):=by unfold N0;rw[ZGA (by rw[hval];simp),ZGA hr]
  refine Lp.iter (s.1-k).toNat (λi y=>y.1=k+(i:Int)∧y.2=(List.range i).map λ(j:Nat)=>k+(j:Int)) ⟨by simp,rfl⟩ ?_;rintro i⟨y,o⟩hi⟨hy,ho⟩R hR;simp only at hy ho;subst hy ho;dsimp only;by_cases e:i<(s.1-k).toNat
  ·rw[ZGB (show k+(i:Int)<s.1 by omega),ZGC];refine⟨⟨?_,?_⟩,⟨by omega,by omega⟩,hR e _ ⟨by simp only;omega,(ZCJ k i).symm⟩⟩;·simp only[ZGM,ZG4,ZGL,ZGS];omega
   ·simp only[ZGM,ZG4,ZGL,ZGS];omega
  ·have :i=(s.1-k).toNat:=by omega
   subst this;rw[ZGF (show¬k+(((s.1-k).toNat:Nat):Int)<s.1 by omega),ZF9,hk]
theorem Ia.spec(s:AM)(k:Int):Ia.wp s k λr=>r=Ia.fn (s,k,()):=Gi.spec s k
theorem law05_ElimMany.spec(s:AM)(l:List Int)(k:Int):law05_ElimMany.wp s l k λr=>r=true:=by simp only[law05_ElimMany.wp,Ft.fn,G5.fn,Gi.fn,Ia.fn,nY,BF.fn];cases Br.fn _<;>cases decide (100<((l.length:Nat):Int))<;>simp
def Bs(k m V:Int):Prop:=if k=0 then 0≤V else if k=1 then V=0 else m∣V
def Ah(L:AN)(x:List Int):Int:=L.2+A0 L.1 x
theorem oA{c:O}{x:List Int}:BI c x=true↔Bs c.1 c.2.1 (Ah c.2.2 x):=by
 unfold BI JB Bs Ah;split;·simp
 ·split;·simp
  ·rw[ZIF,ZIQ]
theorem MV{p:List O}{x:List Int}:As p x=true↔∀c∈p,Bs c.1 c.2.1 (Ah c.2.2 x):=by unfold As;rw[ZHi];exact⟨λh c hc=>oA.1 (h c hc),λh c hc=>oA.2 (h c hc)⟩
theorem Bs.scale{k m V f:Int}(hf:0<f):Bs k (m*f) (f*V)↔Bs k m V:=by
 unfold Bs;split
 ·constructor;·intro h;have :=(Int.mul_le_mul_left (a:=f) (b:=0) (c:=V) hf).1 (by simpa using h);exact this
  ·intro h;exact ZID (by omega) h
 ·split
  ·constructor
   ·intro h;rcases Int.mul_eq_zero.1 h with h|h;·omega
    ·exact h
   ·intro h;rw[h];simp
  ·rw[ZIK m f];constructor;·rintro⟨k,hk⟩;refine⟨k,Int.eq_of_mul_eq_mul_left (a:=f) (by omega) ?_⟩;rw[hk,ZJ2]
   ·rintro⟨k,hk⟩;exact⟨k,by rw[hk,ZJ2]⟩
def C6(v:Nat)(t:Int)(x:List Int):List Int:=x.take v++t::x.drop v
theorem gN(t:Int):∀(C x:List Int)(v:Nat),C.length=x.length+1→v≤x.length→A0 C (C6 v t x)=A0 (Az C v) x+C.getD v 0*t|[],_,_,h,_=>by simp at h|c::C,x,0,_,_=>by simp[Az,C6,A0];omega|c::C,[],v+1,_,h=>by simp at h|c::C,y::x,v+1,h,h2=>by have ih:=gN t C x v (by simpa using h) (by simpa using h2);have e1:Az (c::C) (v+1)=c::Az C v:=rfl;have e2:C6 (v+1) t (y::x)=y::C6 v t x:=rfl;rw[e1,e2];simp only[A0,ZIu,ih];omega
theorem cH{c:O}{v:Nat}{t:Int}{x:List Int}(h:c.2.2.1.length=x.length+1)(hv:v≤x.length):Ah c.2.2 (C6 v t x)=Ah (AI v c) x+Z v c*t:=by unfold Ah AI Z;rw[gN t _ _ _ h hv];simp only;omega
theorem Ub{p:List O}{n:Int}{v:Nat}{x:List Int}(h:pieceN p n)(hx:(x.length:Int)+1=n)(hv:v≤x.length)(t:Int):As p (C6 v t x)=true↔∀c∈p,Bs c.1 c.2.1 (Ah (AI v c) x+Z v c*t):=by
 rw[MV];constructor;·intro hh c hc;rw[←cH (by have :=(h.2.1 c hc).2;omega) hv];exact hh c hc
 ·intro hh c hc;rw[cH (by have :=(h.2.1 c hc).2;omega) hv];exact hh c hc
theorem gP(a b:Int):∀(l m x:List Int),l.length=m.length→A0 ((List.range l.length).map λi=>a*l.getD i 0+b*m.getD i 0) x=a*A0 l x+b*A0 m x
 |[],[],_,_=>by simp[A0]|[],_::_,_,h=>by simp at h|_::_,[],_,h=>by simp at h|c::l,d::m,[],_=>by rw[ZGL,ZJX];simp[A0]|c::l,d::m,y::x,h=>by
  have ih:=gP a b l m x (by simpa using h);rw[ZGL,ZJX,ZGi,ZHP];have e:(λi=>a*(c::l).getD i 0+b*(d::m).getD i 0)∘Nat.succ=λi=>a*l.getD i 0+b*m.getD i 0:=by funext i;simp[Function.comp]
  rw[e];simp only[A0,ZJp,ih];grind
theorem cI{a b:Int}{L M:AN}(h:L.1.length=M.1.length)(x:List Int):Ah (BD a L b M) x=a*Ah L x+b*Ah M x:=by unfold Ah BD;simp only;rw[gP a b _ _ x h];grind
theorem gS(f:Int):∀(l x:List Int),A0 (l.map λn=>f*n) x=f*A0 l x|[],_=>by simp[A0]|_::_,[]=>by simp[A0]|c::l,y::x=>by rw[ZGi];simp only[A0,gS f l x];grind
theorem Vj(f:Int)(L:AN)(k:Int)(x:List Int):Ah (L.1.map λn=>f*n,f*L.2+k) x=f*Ah L x+k:=by unfold Ah;simp only[gS];grind
theorem uH(n:Nat)(k:Int)(x:List Int):Ah (List.replicate n 0,k) x=k:=by unfold Ah;rw[QP λm hm=>(List.mem_replicate.1 hm).2];simp
theorem TG{C:List Int}{v k:Nat}(h:C.length=k+1)(hv:v≤k):(Az C v).length=k:=by unfold Az;simp only[ZGI,ZGP,ZG1];omega
def JI(p:List O)(v:Nat)(x:List Int)(t:Int):Prop:=∀c∈p,Bs c.1 c.2.1 (Ah (AI v c) x+Z v c*t)
theorem rG{e c:O}{v:Nat}{x:List Int}{t:Int}(hl:(AI v c).1.length=(AI v e).1.length)(he:Ah (AI v e) x+Z v e*t=0):Ah (Fg v e c).2.2 x=AR (Z v e)*(Ah (AI v c) x+Z v c*t):=by
 show Ah (BD (AR (Z v e)) (AI v c) (Z v c*if Z v e<0 then 1 else-1) (AI v e)) x=_;rw[cI hl];have h1:Ah (AI v e) x=-(Z v e*t):=by omega
 rw[h1];unfold AR;split;·rw[show max (Z v e) (-Z v e)=-Z v e by omega];grind
 ·rw[show max (Z v e) (-Z v e)=Z v e by omega];grind
theorem ZEC{p:List O}{n:Int}{v i:Nat}{x:List Int}(h:pieceN p n)(hx:(x.length:Int)+1=n)(hv:v≤x.length)(hi:i<p.length)(h0:Z v (p.getD i U)≠0)(h1:(p.getD i U).1=1):As (H6 v p i) x=true↔∃t,JI p v x t:=by
 obtain⟨e,MH⟩:∃e,p.getD i U=e:=⟨_,rfl⟩;have YD:e∈p:=by rw[←MH];exact AV hi
 have hlen:∀c∈p,(AI v c).1.length=x.length:=λc hc=>TG (by have :=(h.2.1 c hc).2;omega) hv;have hA:0<AR (Z v e):=by rw[MH]at h0;unfold AR;omega
 rw[MV];unfold H6;rw[MH]at h0 h1⊢;have A4:∀c,(∃j,j<p.length∧j≠i∧p.getD j U=c)→(if Z v c=0 then GR v c else Fg v e c)∈((BU U p).filter λjc=>decide (jc.1≠i)).map λjc=>if Z v jc.2=0 then GR v jc.2 else Fg v e jc.2:=by rintro c⟨j,hj,Kh,rfl⟩;refine List.mem_map.2 ⟨(j,p.getD j U),List.mem_filter.2 ⟨?_,by simpa using Kh⟩,rfl⟩;exact List.mem_map.2 ⟨j,List.mem_range.2 hj,rfl⟩
 constructor
 ·intro hh;have GD:AR (Z v e)∣Ah (AI v e) x:=by
   by_cases h2:1<AR (Z v e);·have :=hh (2,AR (Z v e),AI v e) (List.mem_append.2 (.inr (by rw[ZGE h2];exact List.mem_singleton.2 rfl)));exact this
   ·rw[show AR (Z v e)=1 by omega];exact Int.one_dvd _
  have ZBF:Z v e∣Ah (AI v e) x:=by
   unfold AR at GD;by_cases hn:Z v e<0;·rw[show max (Z v e) (-Z v e)=-Z v e by omega]at GD;exact Int.neg_dvd.1 GD
   ·rwa[show max (Z v e) (-Z v e)=Z v e by omega]at GD
  obtain⟨q,hq⟩:=ZBF;have hz:Ah (AI v e) x+Z v e*-q=0:=by rw[hq];grind
  refine⟨-q,λc hc=>?_⟩;obtain⟨j,hj,rfl⟩:=Fe (d:=U) hc;by_cases Kh:j=i;·subst Kh;rw[MH];unfold Bs;rw[ZGA (by omega),ZGE h1];exact hz
  ·have :=hh _ (List.mem_append.2 (.inl (A4 _ ⟨j,hj,Kh,rfl⟩)));by_cases hb:Z v (p.getD j U)=0;·rw[ZGE hb]at this;rw[hb,ZIo,ZH3];exact this
   ·rw[ZGA hb,rG ((hlen _ hc).trans (hlen _ YD).symm) hz]at this;exact(Bs.scale hA).1 this
 ·rintro⟨t,ht⟩q hq;have hz:Ah (AI v e) x+Z v e*t=0:=by have :=ht e YD;unfold Bs at this;rwa[ZGA (by omega),ZGE h1]at this
  rcases List.mem_append.1 hq with hq|hq
  ·obtain⟨⟨j,c⟩,YU,rfl⟩:=List.mem_map.1 hq;have lR:=uL (List.mem_filter.1 YU).1;have hc:c∈p:=lR.2.2;have :=ht c hc;dsimp only;by_cases hb:Z v c=0;·rw[ZGE hb];rw[hb,ZIo,ZH3]at this;exact this
   ·rw[ZGA hb,rG ((hlen _ hc).trans (hlen _ YD).symm) hz];exact(Bs.scale hA).2 this
  ·split at hq
   ·rw[List.mem_singleton.1 hq];show AR (Z v e)∣Ah (AI v e) x;have h2:Ah (AI v e) x=-(Z v e*t):=by omega
    rw[h2];refine Int.dvd_neg.2 ?_;unfold AR;by_cases hn:Z v e<0;·rw[show max (Z v e) (-Z v e)=-Z v e by omega];exact Int.neg_dvd.2 (ZIH _ _)
    ·rw[show max (Z v e) (-Z v e)=Z v e by omega];exact ZIH _ _
   ·cases hq
end Go.Proofs.YtgpdnmfpgkkgcaaGreatDoor
