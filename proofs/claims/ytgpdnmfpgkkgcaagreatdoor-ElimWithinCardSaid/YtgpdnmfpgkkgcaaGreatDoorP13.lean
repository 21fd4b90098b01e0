/- Part of a proof that a law of the program holds for every input: what the functions answer, in plain Lean. No conditions. -/
import Derived.Test.YtgpdnmfpgkkgcaaGreatDoorP12
namespace Go.Proofs.YtgpdnmfpgkkgcaaGreatDoor
open Go
set_option linter.defProp false
def ZGO:=@List.length_singleton
def ZG9:=@List.filter_append
def ZHI:=@List.filter_cons_of_neg
def ZHJ:=@List.filter_cons_of_pos
def ZH3:=@Int.add_zero
def ZH6:=@List.mem_map_of_mem
def ZH8:=@List.any_eq_true
def ZIH:=@Int.dvd_mul_right
def ZIQ:=@Int.dvd_iff_tmod_eq_zero
def ZIi:=@Int.dvd_trans
def ZIl:=@Bool.not_eq_true'
def ZIm:=@Int.mul_tdiv_cancel'
def ZI0:=@List.filter_nil
def ZJT:=@List.flatMap_cons
def ZJc:=@Int.mul_ediv_add_emod
def ZJj:=@List.filter_map
def ZJx:=@Int.mul_one
def ZJ2:=@Int.mul_assoc
def ZKB:=@Int.tmod_one
def ZKF:=@Nat.lcm_one_left
def ZKI:=@List.all_eq_not_any_not
def ZKX:=@Int.mul_le_mul
def ZKo:=@List.map_drop
def ZKq:=@Nat.le_of_dvd
def ZKr:=@Function.comp_apply
def ZKt:=@List.flatMap_append
def ZKz:=@Int.lt_or_le
def ZK0:=@List.any_map
def ZLJ:=@Nat.lcm_pos
set_option linter.unusedSimpArgs false
set_option linter.unusedVariables false
def Bw(c:O)(x:List Int):Int:=c.2.2.2+A0 c.2.2.1 x
theorem Wh:∀(C x:List Int),A0 (A5 C) x=-A0 C x|[],x=>by simp[A5,A0]|n::C,[]=>by simp[A5,A0]|n::C,y::x=>by have :=Wh C x;simp only[A5]at this;simp only[A5,ZGi,A0,this,ZKS];omega
theorem gO(C x:List Int):A0 (C.map λn=>-n) x=-A0 C x:=Wh C x
theorem gR(g:Int):∀(C D x:List Int),C.length=D.length→(∀i,i<C.length→C.getD i 0=g*D.getD i 0)→A0 C x=g*A0 D x
 |[],[],x,_,_=>by simp[A0]|[],_::_,_,h,_=>by simp at h|_::_,[],_,h,_=>by simp at h|n::C,m::D,[],_,_=>by simp[A0]|n::C,m::D,y::x,h,hi=>by
  have h0:=hi 0 (by simp);simp only[ZJp]at h0;have ih:=gR g C D x (by simpa using h) λi hi'=>by have :=hi (i+1) (by simpa using hi');simpa using this
  simp only[A0,h0,ih,ZI4,ZJ2]
theorem QO{g:Int}{C:List Int}(h:∀n∈C,g∣n)(x:List Int):A0 C x=g*A0 (C.map (·.tdiv g)) x:=by
 refine gR g C _ x (by simp) λi hi=>?_;have hm:C.getD i 0∈C:=AV hi;have e:(C.map (·.tdiv g)).getD i 0=(C.getD i 0).tdiv g:=by simp[ZGG,hi]
 rw[e,ZIm (h _ hm)]
theorem QP{C:List Int}(h:∀n∈C,n=0)(x:List Int):A0 C x=0:=by have :=QO (g:=0) (C:=C) (λn hn=>by rw[h n hn];exact Int.dvd_refl _) x;simpa using this
theorem gQ(m:Int):∀(C x:List Int),m∣A0 C x-A0 (C.map (·%m)) x
 |[],x=>by simp[A0]|n::C,[]=>by simp[A0]|n::C,y::x=>by
  obtain⟨k,hk⟩:=gQ m C x;refine⟨n/m*y+k,?_⟩;have h1:=ZJc n m;simp only[ZGi,A0];have e:n*y=m*(n/m)*y+n%m*y:=by rw[←Int.add_mul,h1]
  rw[e,ZI4,←ZJ2];omega
theorem NN{l:List Int}{n:Int}(h:n∈l):(AW l:Int)∣n:=Int.ofNat_dvd_left.2 ((Qc (l:=l) (g:=0)).2 n h)
theorem cA{v m:Int}:(v.tmod m==0)=decide (m∣v):=by rw[ZHg];simp[ZIQ]
theorem ZAt(c:O)(x:List Int)(h0:c.1=0):((Gk c).2=0→BI (Gk c).1 x=BI c x)∧(0<(Gk c).2→BI c x=true)∧((Gk c).2<0→BI c x=false):=by
 have ht:BI c x=decide (0≤Bw c x):=by unfold BI JB;rw[ZGE h0];rfl
 rw[ht];unfold Gk;split
 ·rename_i hg;have hz:A0 c.2.2.1 x=0:=QP (XX hg) x;have :Bw c x=c.2.2.2:=by simp[Bw,hz]
  rw[this];unfold Dd;by_cases hk:0≤c.2.2.2<;>simp[hk]
 ·rename_i hg;refine⟨λ_=>?_,λh=>absurd h (by simp),λh=>absurd h (by simp)⟩;have hd:=QO (g:=(AW c.2.2.1:Int)) (C:=c.2.2.1) (λn hn=>NN hn) x;have AU:(0:Int)<(AW c.2.2.1:Int):=by omega
  simp only[BI,JB,ZHa,Bw,hd];rw[ZHg,ZGw,ZGw];generalize A0 (c.2.2.1.map (·.tdiv (AW c.2.2.1:Int))) x=d;generalize(AW c.2.2.1:Int)=g at AU;generalize c.2.2.2=k;have h1:-d≤k/g↔-d*g≤k:=ZI3 AU;rw[ZKS,ZIK]at h1;constructor;·intro h;have :=h1.1 (by omega);omega
  ·intro h;have :=h1.2 (by omega);omega
theorem ZAW(c:O)(x:List Int)(h1:c.1=1):((CU c).2=0→BI (CU c).1 x=BI c x)∧(0<(CU c).2→BI c x=true)∧((CU c).2<0→BI c x=false):=by
 have ht:BI c x=(Bw c x==0):=by simp[BI,JB,h1,Bw]
 rw[ht];unfold CU;split
 ·rename_i hg;by_cases hz:AW c.2.2.1=0
  ·have hd:A0 c.2.2.1 x=0:=QP (XX hz) x;have :Bw c x=c.2.2.2:=by simp[Bw,hd]
   rw[this];unfold Dd;by_cases hk:c.2.2.2=0<;>simp[hk,hz]
  ·have hm:c.2.2.2.tmod (AW c.2.2.1)≠0:=hg.resolve_left hz;have hne:Bw c x≠0:=λe=>hm (by have hd:=QO (g:=(AW c.2.2.1:Int)) (C:=c.2.2.1) (λn hn=>NN hn) x;unfold Bw at e;rw[←ZIQ];exact⟨-A0 (c.2.2.1.map (·.tdiv (AW c.2.2.1:Int))) x,by rw[Int.mul_neg,←hd];omega⟩);unfold Dd;simp[hz,hne]
 ·rename_i hg;simp only[ZGx,ZJy,Classical.not_not]at hg;obtain⟨hz,hm⟩:=hg;refine⟨λ_=>?_,λh=>absurd h (by simp),λh=>absurd h (by simp)⟩;have hs:CV c=(AW c.2.2.1:Int)∨CV c=-(AW c.2.2.1:Int):=by unfold CV;split<;>simp
  have GD:∀n:Int,(AW c.2.2.1:Int)∣n→CV c∣n:=λn hn=>by
   rcases hs with e|e<;>rw[e];·exact hn
   ·exact Int.neg_dvd.2 hn
  have hne:CV c≠0:=by rcases hs with e|e<;>rw[e]<;>omega
  have hd:=QO (g:=CV c) (C:=c.2.2.1) (λn hn=>GD n (NN hn)) x;have hk:CV c*c.2.2.2.tdiv (CV c)=c.2.2.2:=ZIm (GD _ (Int.dvd_iff_tmod_eq_zero.2 hm));simp only[BI,JB,show¬(1:Int)=0 by omega,ZHM,ZHa,Bw,hd];rw[ZHg,ZIF,ZIF];rw[show c.2.2.2+CV c*A0 (c.2.2.1.map (·.tdiv (CV c))) x=CV c*(c.2.2.2.tdiv (CV c)+A0 (c.2.2.1.map (·.tdiv (CV c))) x)by rw[ZI4,hk]];constructor;·intro h;rw[h,Int.mul_zero]
  ·intro h;exact(Int.mul_eq_zero.1 h).resolve_left hne
theorem zK(c:O)(x:List Int)(h2:c.1=2)(hm:1≤c.2.1):((FS c).2=0→BI (FS c).1 x=BI c x)∧(0<(FS c).2→BI c x=true)∧((FS c).2<0→BI c x=false):=by
 have ht:BI c x=decide (c.2.1∣Bw c x):=by simp only[BI,JB,h2,Bw,show¬(2:Int)=0 by omega,show¬(2:Int)=1 by omega,ZHM];exact cA
 have HH:c.2.1∣Bw c x↔c.2.1∣c.2.2.2%c.2.1+A0 (c.2.2.1.map (·%c.2.1)) x:=by
  obtain⟨k,hk⟩:=gQ c.2.1 c.2.2.1 x;have e:=ZJc c.2.2.2 c.2.1;have :Bw c x=(c.2.2.2%c.2.1+A0 (c.2.2.1.map (·%c.2.1)) x)+c.2.1*(c.2.2.2/c.2.1+k):=by unfold Bw;rw[ZI4];omega
  rw[this];exact Int.dvd_add_left (ZIH _ _)
 have PG:(A9 c:Int)∣c.2.1:=NN (l:=c.2.1::c.2.2.1.map (·%c.2.1)) (by simp);have Tz:∀n∈c.2.2.1.map (·%c.2.1),(A9 c:Int)∣n:=λn hn=>NN (l:=c.2.1::c.2.2.1.map (·%c.2.1)) (by simp only[ZGe];exact .inr hn);have Qx:0<A9 c:=Qd hm _;have hd:=QO (g:=(A9 c:Int)) (C:=c.2.2.1.map (·%c.2.1)) Tz x;rw[ht];unfold FS;split;·rename_i hk;have hn:¬c.2.1∣Bw c x:=λh=>hk (by have h3:=ZIi PG (HH.1 h);rw[←ZIQ];exact(Int.dvd_add_left (by rw[hd];exact ZIH _ _)).1 h3);simp[Dd,hn]
 ·rename_i hk;simp only[ZJy,Classical.not_not]at hk;have hk':=Int.dvd_iff_tmod_eq_zero.2 hk;split
  ·rename_i he;have hn:c.2.1∣Bw c x:=HH.2 (by
   have hd':c.2.1∣A0 (c.2.2.1.map (·%c.2.1)) x:=by rw[hd,←he];exact ZIH _ _
   exact Int.dvd_add (by have :=hk';rwa[←he]at this) hd');simp[Dd,hn]
  ·refine⟨λ_=>?_,λh=>absurd h (by simp),λh=>absurd h (by simp)⟩;simp only[BI,JB,show¬(2:Int)=0 by omega,show¬(2:Int)=1 by omega,ZHM];rw[cA,ZHg,ZGw,ZGw,HH,hd];have e1:(A9 c:Int)*c.2.1.tdiv (A9 c)=c.2.1:=ZIm PG;have e2:(A9 c:Int)*(c.2.2.2%c.2.1).tdiv (A9 c)=c.2.2.2%c.2.1:=ZIm hk';have hne:(A9 c:Int)≠0:=by omega
   generalize A0 ((c.2.2.1.map (·%c.2.1)).map (·.tdiv (A9 c:Int))) x=d;rw[←Int.mul_dvd_mul_iff_left hne,ZI4,e1,e2]
theorem SC{c:O}(hb:MZ c)(x:List Int):((Ae c).2=0→BI (Ae c).1 x=BI c x)∧(0<(Ae c).2→BI c x=true)∧((Ae c).2<0→BI c x=false):=by
 unfold Ae;rcases hb with h|h|⟨h,h2,_⟩;·rw[ZGE h];exact ZAt c x h
 ·rw[ZGA (by omega),ZGE h];exact ZAW c x h
 ·rw[ZGA (by omega),ZGA (by omega)];exact zK c x h h2
def As(p:List O)(x:List Int):Bool:=p.all λc=>BI c x
theorem Ua{p:List O}{x:List Int}:As p x=true↔∀c∈p,BI c x=true:=by simp[As]
theorem PZ(p q:List O)(x:List Int):As (p++q) x=(As p x&&As q x):=by simp[As]
theorem ZDd{p:List O}(hb:BN p)(x:List Int)(h:CZ p=true):As p x=false:=by simp only[CZ,ZK0,ZH8,ZKr,ZGw]at h;obtain⟨c,hc,h⟩:=h;have :=(SC (hb.2 c hc).1 x).2.2 h;simp only[As,ZI6];exact⟨c,hc,by rw[this];simp⟩
theorem ZDb{p:List O}(hb:BN p)(x:List Int)(h:CZ p=false):As (Aq p) x=As p x:=by
 rw[ZHg,Ua,Ua];have hn:∀c∈p,¬(Ae c).2<0:=λc hc Ab=>by
  have :CZ p=true:=by simp only[CZ,ZK0,ZH8,ZKr,ZGw];exact⟨c,hc,Ab⟩
  rw[h]at this;cases this
 constructor
 ·intro ha c hc;have hs:=SC (hb.2 c hc).1 x;rcases Int.lt_trichotomy (Ae c).2 0 with h0|h0|h0;·exact absurd h0 (hn c hc)
  ·rw[←hs.1 h0];refine ha _ ?_;simp only[Aq,ZGt,ZHx];exact⟨Ae c,⟨⟨c,hc,rfl⟩,by simpa using h0⟩,rfl⟩
  ·exact hs.2.1 h0
 ·intro ha c hc;simp only[Aq,ZGt,ZHx]at hc;obtain⟨r,⟨⟨d,hd,rfl⟩,hr⟩,rfl⟩:=hc;rw[(SC (hb.2 d hd).1 x).1 (by simpa using hr)];exact ha d hd
def Lu(L:O→Prop)(x:List Int):Prop:=∀c,L c→BI c x=true
theorem Hy{c:O}(h:c.1=0)(x:List Int):BI c x=true↔0≤Bw c x:=by unfold BI JB;rw[ZGE h,ZGw];rfl
theorem Ny{c:O}(h:c.1=1)(x:List Int):BI c x=true↔Bw c x=0:=by unfold BI JB;rw[ZGA (by omega),ZGE h,ZIF];rfl
theorem iP(f:O→Int):∀{l:List O},l≠[]→∃c∈l,∀d∈l,f c≤f d
 |[],h=>absurd rfl h|[c],_=>⟨c,by simp,λd hd=>by simp only[ZGT]at hd;subst hd;exact ZH4 _⟩|c::d::l,_=>by
  obtain⟨e,he,hm⟩:=iP f (l:=d::l) (by simp);by_cases h:f c≤f e
  ·refine⟨c,by simp,λy hy=>?_⟩;rcases List.mem_cons.1 hy with rfl|hy;·exact ZH4 _
   ·exact ZKy h (hm y hy)
  ·refine⟨e,ZGK _ he,λy hy=>?_⟩;rcases List.mem_cons.1 hy with rfl|hy;·omega
   ·exact hm y hy
theorem vX{l:List O}{x:List Int}:Lu (Lm l) x↔∀c∈l,BI c x=true:=by
 refine⟨λh d hd=>?_,λh c hc=>h c hc.1⟩;by_cases h0:d.1=0;·obtain⟨c,hc,hm⟩:=iP (λc=>c.2.2.2) (l:=l.filter λc=>decide (c.1=0∧c.2.2.1=d.2.2.1)) (List.ne_nil_of_mem (List.mem_filter.2 ⟨hd,by simp[h0]⟩));obtain⟨hcl,By⟩:=List.mem_filter.1 hc;simp only[ZGw]at By;have hL:Lm l c:=⟨hcl,λ_ e he h1 h2=>hm e (List.mem_filter.2 ⟨he,by simp[h1,h2,By.2]⟩)⟩;have h1:=(Hy By.1 x).1 (h c hL);have h2:=hm d (List.mem_filter.2 ⟨hd,by simp[h0]⟩);rw[Hy h0];unfold Bw at h1⊢;rw[By.2]at h1;omega
 ·exact h d ⟨hd,λe=>absurd e h0⟩
theorem tX{n:Nat}{c:O}(h:Mk n c)(h0:c.1=0)(x:List Int):BI (F6 c) x=true↔Bw c x=0:=by have hs:=(SC (c:=(1,0,c.2.2)) (.inr (.inl rfl)) x).1 (by have hg:=h.gcd h0;simp[Ae,CU,hg,ZKB]);rw[show F6 c=(Ae (1,0,c.2.2)).1 from rfl,hs,Ny rfl];rfl
theorem Uw{c d:O}(h:d.2.2.1=A5 c.2.2.1)(x:List Int):Bw d x=d.2.2.2+c.2.2.2-Bw c x:=by unfold Bw;rw[h,Wh];omega
theorem dE{n:Nat}{L:O→Prop}(hm:∀c,L c→Mk n c){x:List Int}:Lu (MM L) x↔Lu L x:=by
 constructor
 ·intro h c hc;by_cases hO:c.1=0∧FM L c;·have :=(tX (hm c hc) hO.1 x).1 (h _ (.inr ⟨c,hc,hO.1,hO.2,rfl⟩));rw[Hy hO.1];omega
  ·exact h c (.inl ⟨hc,λh0 ho=>hO ⟨h0,ho⟩⟩)
 ·rintro h c(⟨hc,_⟩|⟨d,hd,h0,⟨e,he,h1,h2,h3⟩,rfl⟩);·exact h c hc
  ·rw[tX (hm d hd) h0];have a1:=(Hy h0 x).1 (h d hd);have a2:=(Hy h1 x).1 (h e he);rw[Uw h2]at a2;omega
theorem wE{L:O→Prop}{x:List Int}(h:Ii L):¬Lu L x:=λha=>by obtain⟨c,d,hc,hd,h0,h1,h2,h3⟩:=h;have a1:=(Hy h0 x).1 (ha c hc);have a2:=(Hy h1 x).1 (ha d hd);rw[Uw h2]at a2;omega
theorem bC{c d:O}(h:d.2.2.1=c.2.2.1)(x:List Int):Bw d x=d.2.2.2-c.2.2.2+Bw c x:=by unfold Bw;rw[h];omega
theorem wF{M:O→Prop}{x:List Int}(h:Hm M):¬Lu M x:=λha=>by
 rcases h with⟨e,f,he,hf,h1,h2,h3,h4⟩|⟨c,e,hc,he,h0,h1,⟨h2,h3⟩|⟨h2,h3⟩⟩;·have a1:=(Ny h1 x).1 (ha e he);have a2:=(Ny h2 x).1 (ha f hf);rw[bC h3]at a1;omega
 ·have a1:=(Hy h0 x).1 (ha c hc);have a2:=(Ny h1 x).1 (ha e he);rw[bC h2]at a2;omega
 ·have a1:=(Hy h0 x).1 (ha c hc);have a2:=(Ny h1 x).1 (ha e he);rw[Uw h2]at a2;omega
theorem vU{M:O→Prop}{x:List Int}(hv:¬Hm M):Lu (Lt M) x↔Lu M x:=by
 refine⟨λh c hc=>?_,λh c hc=>h c hc.1⟩;by_cases hf:Lt M c;·exact h c hf
 ·have h0:c.1=0:=ZHW λh0=>hf ⟨hc,λe=>absurd e h0⟩;have :∃e,M e∧e.1=1∧(e.2.2.1=c.2.2.1∨e.2.2.1=A5 c.2.2.1):=ZHW λhn=>hf ⟨hc,λ_ e he h1=>⟨λh2=>hn ⟨e,he,h1,.inl h2⟩,λh2=>hn ⟨e,he,h1,.inr h2⟩⟩⟩;obtain⟨e,he,h1,h2⟩:=this;have a2:=(Ny h1 x).1 (h e ⟨he,λe0=>by omega⟩);rw[Hy h0];rcases h2 with h2|h2;·have :¬c.2.2.2<e.2.2.2:=λh3=>hv (.inr ⟨c,e,hc,he,h0,h1,.inl ⟨h2,h3⟩⟩);rw[bC h2]at a2;omega
  ·have :¬c.2.2.2+e.2.2.2<0:=λh3=>hv (.inr ⟨c,e,hc,he,h0,h1,.inr ⟨h2,h3⟩⟩);rw[Uw h2]at a2;omega
theorem bY{p:List O}{n:Nat}(hb:BN p)(hd:A3 p n)(hv:CZ p=false)(h1:¬Ii (Lm (Aq p)))(h2:¬Hm (MM (Lm (Aq p)))):∃m:List O,∀x,x∈m↔Lt (MM (Lm (Aq p))) x:=by
 have hl:=SD hb hd;have e:(λx=>x∈Cq (Aq p))=Lm (Aq p):=funext λx=>propext (Pa hl x);have hL:∀c∈Cq (Aq p),Mk n c:=Uk (λd c hd _=>pN hd) hl;have hu:Vz (Cq (Aq p)):=λc hc d hd h0 h1 h=>Lm.uniq hl ((Pa hl c).1 hc) ((Pa hl d).1 hd) h0 h1 h;obtain⟨Ld,Nk⟩:=qU hL hu;rw[e]at Ld Nk;rcases CN (GV (Cq (Aq p)))with h3|⟨M,h3⟩;·exact absurd (Ld h3) h1
 ·obtain⟨Ni,hM⟩:=Nk M h3;have eM:(λx=>x∈M)=MM (Lm (Aq p)):=funext λx=>propext (hM x);have Hr:∀c∈M,Mk n c:=Zy (λc h0 hc=>(KM hc h0).1) hL h3;obtain⟨DD,En⟩:=sJ Hr;rw[eM]at DD En;rcases CN (Gc M)with h4|⟨out,h4⟩;·exact absurd (DD h4) h2
  ·exact⟨out,(En out h4).2⟩
theorem tU{p:List O}{n:Nat}(hb:BN p)(hd:A3 p n)(x:List Int)(h3:(Af p).2.2=0):((Af p).2.1=true→As p x=false)∧((Af p).2.1=false→As (Af p).1 x=As p x):=by
 by_cases hv:CZ p=true
 ·have e:Af p=([],true,0):=by have :=JA p;rw[hv]at this;simpa using this
  rw[e];exact⟨λ_=>ZDd hb x hv,λh=>by cases h⟩
 ·have hv:CZ p=false:=by simpa using hv
  obtain⟨s1,s2⟩:=Pz hb hd hv;have hl:=SD hb hd;have LQ:∀c,Lm (Aq p) c→Mk n c:=λc hc=>hl c hc.1;have base:Lu (MM (Lm (Aq p))) x↔As p x=true:=by rw[dE LQ,vX,←Ua,ZDb hb x hv]
  by_cases hw:Ii (Lm (Aq p))∨Hm (MM (Lm (Aq p)))
  ·rw[s1 hw];refine⟨λ_=>?_,λh=>by cases h⟩;rw[←ZHs,←base];rcases hw with h|h;·rw[dE LQ];exact wE h
   ·exact wF h
  ·have hw1:¬Ii (Lm (Aq p)):=λh=>hw (.inl h);have IS:¬Hm (MM (Lm (Aq p))):=λh=>hw (.inr h);obtain⟨m,hm⟩:=bY hb hd hv hw1 IS;have Gp:K3 m:=λc hc=>by
    rcases((hm c).1 hc).1 with⟨h,_⟩|⟨d,h,h0,_,rfl⟩;·exact(LQ c h).2.1
    ·exact(KM (LQ d h) h0).1.2.1
   rw[s2 hw1 IS m hm]at h3⊢;split at h3;·cases h3
   ·rename_i hc;rw[ZGA hc];refine⟨λh=>(by cases h),λ_=>?_⟩;rw[ZHg,←base,←vU IS,Ua];constructor;·intro h c hc;exact h c ((Mt Gp c).2 ((hm c).2 hc))
    ·intro h c hc;exact h c ((hm c).1 ((Mt Gp c).1 hc))
def Ao(l:List (List O))(x:List Int):Bool:=l.any λp=>As p x
theorem nN{l:List (List O)}{x:List Int}:Ao l x=true↔∃p∈l,As p x=true:=by simp[Ao]
theorem nM(a b:List (List O))(x:List Int):Ao (a++b) x=(Ao a x||Ao b x):=by simp[Ao]
theorem ZEm{out out':List (List O)}{p:List O}{n:Nat}(hb:BN p)(hd:A3 p n)(x:List Int)(h:BT out p=some out'):Ao out' x=(Ao out x||As p x):=by
 unfold BT at h;split at h;·cases h
 ·rename_i h3;have h3:(Af p).2.2=0:=by simpa using h3
  obtain⟨t1,t2⟩:=tU hb hd x h3;split at h
  ·rename_i h4;cases h;by_cases hv:(Af p).2.1=true;·rw[t1 hv,ZIW]
   ·have hv:(Af p).2.1=false:=by simpa using hv
    have hm:=h4.resolve_left (by rw[hv];simp);rw[←t2 hv];cases hq:As (Af p).1 x with|false=>rw[ZIW]|true=>rw[ZHo];exact nN.2 ⟨_,hm,hq⟩
  ·rename_i h4;split at h;·cases h
   ·cases h;have hv:(Af p).2.1=false:=by cases hv:(Af p).2.1 with|false=>rfl|true=>exact absurd (.inl hv) h4
    rw[nM,←t2 hv];simp[Ao]
theorem bW{n:Nat}(x:List Int):∀{l out out':List (List O)},(∀p∈l,BN p∧A3 p n)→l.foldlM BT out=some out'→Ao out' x=(Ao out x||Ao l x)|[],out,out',_,h=>by cases h;simp[Ao]|p::l,out,out',hl,h=>by rw[ZGc]at h;obtain⟨o1,h1,h2⟩:=Option.bind_eq_some_iff.1 h;obtain⟨hb,hd⟩:=hl p (by simp);rw[bW x (λq hq=>hl q (ZGK _ hq)) h2,ZEm hb hd x h1,Bool.or_assoc];congr 1
theorem bV{n:Nat}(x:List Int){l out:List (List O)}(hl:∀p∈l,BN p∧A3 p n)(h:Bg l=some out):Ao out x=Ao l x:=by rw[bW x hl h];simp[Ao]
theorem Ro{n:Int}{o:Option (List (List O))}(h:(GO n o).2=0):∃out,o=some out∧(GO n o).1=(n,out):=by cases o with|none=>simp[GO]at h|some out=>exact⟨out,rfl,rfl⟩
theorem N4{s:AM}(x:List Int)(h:(AX s).2=0):Ao (AX s).1.2 x=Ao s.2 x∧(AX s).1.1=s.1∧AY s=true:=by
 unfold AX at h⊢;split at h;·simp at h
 ·rename_i hv;have hv:AY s=true:=by simpa using hv
  rw[ZGA (by rw[hv];simp)];obtain⟨out,h1,h2⟩:=Ro h;rw[h2];exact⟨bV x (λp hp=>AY.D hv hp) h1,rfl,hv⟩
theorem xN{a b:AM}(h:JJ a b=0):AY a=true∧AY b=true∧a.1=b.1:=by
 unfold JJ at h;split at h
 ·rename_i hv;rw[ZGW]at hv;split at h;·rename_i he;exact⟨hv.1,hv.2,he⟩
  ·cases h
 ·cases h
theorem ZC5{c:O}(hv:AG c=true)(x:List Int):(∃o∈CI c,BI o x=true)↔BI c x=false:=by
 unfold CI;rcases AG.kind hv with⟨h,_⟩|⟨h,_⟩|⟨h,EV,Iy⟩;·rw[ZGE h,←ZHs,Hy h];simp only[ZGT,exists_eq_left];rw[Hy rfl];simp only[Bw,IV,gO];omega
 ·rw[ZGA (by omega),ZGE h,←ZHs,Ny h];simp only[ZGe,ZIc,ZJZ,exists_eq_or_imp,exists_eq_left];rw[Hy rfl,Hy rfl];simp only[Bw,IV,gO];omega
 ·rw[ZGA (by omega),ZGA (by omega)];have hd:∀d:O,d.1=2→BI d x=decide (d.2.1∣Bw d x):=λd h2=>by simp only[BI,JB,h2,Bw,show¬(2:Int)=0 by omega,show¬(2:Int)=1 by omega,ZHM];exact cA
  rw[hd c h,ZHm];simp only[ZGt,ZH5];have hat:∀r:Nat,Bw ((2,c.2.1,c.2.2.1,c.2.2.2-((r:Int)+1)):O) x=Bw c x-((r:Int)+1):=λr=>by simp only[Bw];omega
  have AU:0<c.2.1:=by omega
  have h3:=ZJc (Bw c x) c.2.1;have h4:=ZHQ (Bw c x) (b:=c.2.1) (by omega);have h5:=ZHH (Bw c x) AU;constructor;·rintro⟨o,⟨r,hr,rfl⟩,ho⟩hn;rw[hd _ rfl,ZGw,hat]at ho;simp only at ho;have h6:c.2.1∣(r:Int)+1:=(Int.dvd_iff_dvd_of_dvd_sub ho).1 hn;have :=Int.le_of_dvd (by omega) h6;omega
  ·intro hn;have h6:Bw c x%c.2.1≠0:=λe=>hn (Int.dvd_of_emod_eq_zero e);refine⟨_,⟨(Bw c x%c.2.1-1).toNat,by omega,rfl⟩,?_⟩;rw[hd _ rfl,ZGw,hat];simp only;refine⟨Bw c x/c.2.1,?_⟩;omega
theorem ZEx(n:Nat)(x:List Int):BI (0,0,List.replicate n 0,0) x=true:=by rw[Hy rfl];have :A0 (List.replicate n (0:Int)) x=0:=QP (λm hm=>List.eq_of_mem_replicate hm) x;simp[Bw,this]
theorem qF{n:Nat}(x:List Int):∀{l out out':List O},(∀o∈l,MZ o)→l.foldlM (G0 n) out=some out'→((∃o∈out',BI o x=true)↔(∃o∈out,BI o x=true)∨∃o∈l,BI o x=true)
 |[],out,out',_,h=>by cases h;simp|c::l,out,out',hl,h=>by
  rw[ZGc]at h;obtain⟨o1,h1,h2⟩:=Option.bind_eq_some_iff.1 h;rw[qF x (λo ho=>hl o (ZGK _ ho)) h2];have hs:=SC (hl c (by simp)) x;have key:(∃o∈o1,BI o x=true)↔(∃o∈out,BI o x=true)∨BI c x=true:=by
   have hm:∀h:(Dj c).2.2=0,(Dj c).1=(Ae c).1∧(Dj c).2.1=(Ae c).2:=λh=>by
    unfold Dj at h⊢;split at h;·cases h
    ·rename_i hc;rw[ZGA hc];exact⟨rfl,rfl⟩
   unfold G0 at h1;split at h1;·cases h1
   ·rename_i h0;obtain⟨m1,m2⟩:=hm (by simpa using h0);rw[m1,m2]at h1;split at h1;·rename_i hp;cases h1;have ht:=ZEx n x;simp only[ZGa,ZGT,hs.2.1 hp,or_true,iff_true];exact⟨_,.inr rfl,ht⟩
    ·rename_i hp;split at h1;·rename_i hn;cases h1;rw[hs.2.2 hn];simp
     ·rename_i hn;cases h1;rw[←hs.1 (by omega)];simp only[ZGa,ZGT];constructor
      ·rintro⟨o,ho|rfl,hx⟩;·exact .inl ⟨o,ho,hx⟩
       ·exact .inr hx
      ·rintro(⟨o,ho,hx⟩|hx);·exact⟨o,.inl ho,hx⟩
       ·exact⟨_,.inr rfl,hx⟩
  rw[key];simp only[ZGe,exists_eq_or_imp,ZKm]
theorem ZC6{c o:O}(hv:AG c=true)(h:o∈CI c):MZ o:=by
 unfold CI at h;rcases AG.kind hv with⟨h0,_⟩|⟨h0,_⟩|⟨h0,EV,Iy⟩;·rw[ZGE h0]at h;simp only[ZGT]at h;subst h;exact .inl rfl
 ·rw[ZGA (by omega),ZGE h0]at h;simp only[ZGe,ZIc,ZJZ]at h;rcases h with rfl|rfl<;>exact .inl rfl
 ·rw[ZGA (by omega),ZGA (by omega)]at h;simp only[ZGt]at h;obtain⟨r,_,rfl⟩:=h;exact .inr (.inr ⟨rfl,EV,by show c.2.1≤_;omega⟩)
theorem ZCr{c:O}(hv:AG c=true)(x:List Int)(h:(Cr c).2=0):(∃o∈(Cr c).1,BI o x=true)↔BI c x=false:=by
 unfold Cr at h⊢;rw[ZGA (by rw[hv];simp)]at h⊢;split at h;·cases h
 ·rename_i out ho;split at h;·cases h
  ·rename_i hl;rw[ZGA hl];rw[qF x (λo ho=>ZC6 hv ho) ho,←ZC5 hv x];simp
theorem gC{a b:List O}(hb:∀c∈b,AG c=true)(x:List Int):∀{k:Nat}{out:List (List O)},k≤b.length→(List.range k).foldlM (F8 a b) []=some out→Ao out x=(As a x&&!As (b.take k) x)
 |0,out,_,h=>by cases h;simp[Ao,As]|k+1,out,hk,h=>by
  rw[ZIT,ZHq]at h;obtain⟨o1,h1,h2⟩:=Option.bind_eq_some_iff.1 h;simp only[ZGc,List.foldlM_nil]at h2;obtain⟨o2,h2,h3⟩:=Option.bind_eq_some_iff.1 h2;cases h3;have ih:=gC hb x (by omega) h1;unfold F8 at h2;split at h2;·cases h2
  ·rename_i h0;cases h2;have hm:b.getD k U∈b:=AV (by omega);have hn:=ZCr (hb _ hm) x (by simpa using h0);rw[nM,ih,B0 U (by omega:k<b.length),PZ];have e:Ao ((Cr (b.getD k U)).1.map λo=>a++(b.take k++[o])) x=(As a x&&(As (b.take k) x&&!BI (b.getD k U) x)):=by
    rw[ZHg,nN];simp only[ZGt,ZGW,ZIl];rw[←hn];constructor;·rintro⟨p,⟨o,ho,rfl⟩,hx⟩;rw[PZ,PZ,ZGW,ZGW]at hx;exact⟨hx.1,hx.2.1,o,ho,by simpa[As]using hx.2.2⟩
    ·rintro⟨h1,h2,o,ho,hx⟩;exact⟨_,⟨o,ho,rfl⟩,by rw[PZ,PZ,h1,h2];simp[As,hx]⟩
   rw[e];have e1:As [b.getD k U] x=BI (b.getD k U) x:=by simp[As]
   rw[e1];cases As a x<;>cases As (b.take k) x<;>cases BI (b.getD k U) x<;>rfl
theorem yV{a b:List O}{n:Nat}(ha:Cv a)(hb:Cv b)(Ke:A3 a n)(Tu:A3 b n)(x:List Int)(h:(CT a b).2=0):Ao (CT a b).1 x=(As a x&&!As b x):=by
 have hB:BN (a++b):=⟨by have :=ha.1;have :=hb.1;rw[ZGI];omega,λc hc=>(List.mem_append.1 hc).elim (λh=>AG.condB (ha.2 c h)) λh=>AG.condB (hb.2 c h)⟩;have hD:A3 (a++b) n:=λc hc=>(List.mem_append.1 hc).elim (λh=>Ke c h) λh=>Tu c h;unfold CT at h⊢;split at h;·cases h
 ·rename_i h0;rw[ZGA h0];split at h
  ·rename_i h1;rw[ZGE h1];have :=(tU hB hD x (by simpa using h0)).1 h1;rw[PZ]at this;have e:Ao [a] x=As a x:=by simp[Ao]
   rw[e];cases hax:As a x<;>cases Jx:As b x<;>simp_all
  ·rename_i h1;rw[ZGA h1];split at h;·cases h
   ·rename_i out ho;show Ao out x=_;rw[gC hb.2 x (ZGR _) ho,ZGN]
def PD(n:Nat)(l:List (List O)):Prop:=PP l∧∀p∈l,A3 p n
theorem PD.at{n:Nat}{l:List (List O)}(h:PD n l){p:List O}(hp:p∈l):Cv p∧A3 p n:=⟨h.1.v hp,h.2 p hp⟩
theorem zC{a b:List O}{n:Nat}(ha:Cv a)(Ke:A3 a n)(hb:Cv b)(D3:A3 b n){out o1:List (List O)}(h:Jp b out a=some o1)(hd:∀p∈out,A3 p n)(x:List Int):(∀p∈o1,A3 p n)∧Ao o1 x=(Ao out x||As a x&&!As b x):=by
 unfold Jp at h;split at h;·cases h
 ·rename_i h0;have h0:(CT a b).2=0:=by simpa using h0
  have hB:∀p∈(CT a b).1,BN p∧A3 p n:=λp hp=>⟨(TF ha hb).2 p hp,fZ Ke hb D3 p hp⟩;exact⟨SV h hd hB,by rw[bW (n:=n) x hB h,yV ha hb Ke D3 x h0]⟩
theorem gD{b:List O}{n:Nat}(hb:Cv b)(D3:A3 b n)(x:List Int):∀{l out out':List (List O)},(∀a∈l,Cv a∧A3 a n)→(∀p∈out,A3 p n)→l.foldlM (Jp b) out=some out'→(∀p∈out',A3 p n)∧Ao out' x=(Ao out x||Ao l x&&!As b x)
 |[],out,out',_,hd,h=>by cases h;exact⟨hd,by simp[Ao]⟩|a::l,out,out',hl,hd,h=>by
  rw[ZGc]at h;obtain⟨o1,h1,h2⟩:=Option.bind_eq_some_iff.1 h;obtain⟨ha,Ke⟩:=hl a (by simp);obtain⟨k1,k2⟩:=zC ha Ke hb D3 h1 hd x;obtain⟨k3,k4⟩:=gD hb D3 x (λq hq=>hl q (ZGK _ hq)) k1 h2;refine⟨k3,?_⟩;rw[k4,k2];have e2:Ao (a::l) x=(As a x||Ao l x):=by simp[Ao]
  rw[e2];cases Ao out x<;>cases As a x<;>cases Ao l x<;>cases As b x<;>rfl
theorem ZCj{cur cur':List (List O)}{b:List O}{n:Nat}(hb:Cv b)(D3:A3 b n)(hc:PD n cur)(x:List Int)(h:Jc cur b=some cur'):PD n cur'∧Ao cur' x=(Ao cur x&&!As b x):=by obtain⟨k1,k2⟩:=gD hb D3 x (l:=cur) (out:=[]) (λa ha=>hc.at ha) (by simp) h;exact⟨⟨pQ h hb hc.1,k1⟩,by rw[k2];simp[Ao]⟩
theorem pP{n:Nat}(x:List Int):∀{l cur cur':List (List O)},PD n cur→(∀b∈l,Cv b∧A3 b n)→l.foldlM Jc cur=some cur'→PD n cur'∧Ao cur' x=(Ao cur x&&!Ao l x)
 |[],cur,cur',hc,_,h=>by cases h;exact⟨hc,by simp[Ao]⟩|b::l,cur,cur',hc,hl,h=>by
  rw[ZGc]at h;obtain⟨o1,h1,h2⟩:=Option.bind_eq_some_iff.1 h;obtain⟨hb,D3⟩:=hl b (by simp);obtain⟨k1,k2⟩:=ZCj hb D3 hc x h1;obtain⟨k3,k4⟩:=pP x k1 (λq hq=>hl q (ZGK _ hq)) h2;refine⟨k3,?_⟩;rw[k4,k2];have e2:Ao (b::l) x=(As b x||Ao l x):=by simp[Ao]
  rw[e2];cases Ao cur x<;>cases Ao l x<;>cases As b x<;>rfl
theorem Pf{s:AM}(h:(AX s).2=0):PD s.1.toNat (AX s).1.2:=⟨(Rm h).1,Zp (N4 [] h).2.2 h⟩
theorem ZCk{a b:AM}(h:(D8 a b).2=0):(AY a=true∧AY b=true∧a.1=b.1)∧PD a.1.toNat (D8 a b).1.2∧(D8 a b).1.1=a.1∧∀x,Ao (D8 a b).1.2 x=(Ao a.2 x&&!Ao b.2 x):=by
 unfold D8 at h⊢;split at h;·rename_i h0;exact absurd h h0
 ·rename_i h0;obtain⟨ha,hb,he⟩:=xN (by simpa using h0);rw[ZGA h0];split at h;·cases h
  ·rename_i h1;rw[ZGA h1];have n1:(AX a).2=0:=ZHW λh=>h1 (.inl h);have n2:(AX b).2=0:=ZHW λh=>h1 (.inr h);obtain⟨out,h2,h3⟩:=Ro h;rw[h3];have hb2:=Pf n2;have key:=λx=>pP x (Pf n1) (λb' hb'=>by rw[he];exact hb2.at hb') h2;refine⟨⟨ha,hb,he⟩,(key []).1,rfl,λx=>?_⟩;rw[(key x).2,(N4 x n1).1,(N4 x n2).1]
theorem ZD2{n:Int}{l:List (List O)}(h0:0≤n)(h1:n≤12)(h:PD n.toNat l):AY (n,l)=true:=by obtain⟨⟨k1,k2⟩,k3⟩:=h;simp only[AY,ZGW,ZGw,ZHi,GS];refine⟨⟨⟨h0,h1⟩,by omega⟩,λp hp=>⟨by have :=(k2 p hp).1;omega,λc hc=>⟨(k2 p hp).2 c hc,?_⟩⟩⟩;have :=k3 p hp c hc;rw[ZIF,this];omega
theorem wC{n:Nat}{l:List (List O)}(h:PD n l){x:List Int}(hx:x.length=n)(hc:x.all DA=true):∀p∈l,∀c∈p,Oa c x:=λp hp c By=>⟨(h.1.2 p hp).2 c By,by rw[h.2 p hp c By,hx],List.all_eq_true.1 hc⟩
theorem ZD3{s:AM}(h:AY s=true):PD s.1.toNat s.2:=by have hb:=AY.b h;exact⟨⟨hb.2.2.1,λp hp=>AY.piece h hp⟩,λp hp=>(AY.D h hp).2⟩
def Nf(c:O):Prop:=Ae c=(c,0)
theorem ZAu{c:O}(h0:c.1=0)(h1:c.2.1=0)(hg:AW c.2.2.1=1):Nf c:=by obtain⟨a,b,C,K⟩:=c;simp only at h0 h1 hg;subst h0 h1;unfold Nf Ae Gk;simp only[hg,ZHa];simp
theorem iM{c:O}(h0:c.1=1)(h1:c.2.1=0)(hg:AW c.2.2.1=1)(hf:D2 c.2.2.1=false):Nf c:=by
 obtain⟨a,b,C,K⟩:=c;simp only at h0 h1 hg hf;subst h0 h1;have hs:CV (1,0,C,K)=1:=by unfold CV;simp[hf,hg]
 unfold Nf Ae CU;rw[ZGA (by simp),ZGE rfl,hs];simp[hg,ZKB]
theorem zL{c:O}(h0:c.1=2)(hm:2≤c.2.1)(hC:∀n∈c.2.2.1,0≤n∧n<c.2.1)(hK:0≤c.2.2.2∧c.2.2.2<c.2.1)(hg:AW (c.2.1::c.2.2.1)=1):Nf c:=by
 obtain⟨a,M,C,K⟩:=c;simp only at h0 hm hC hK hg;subst h0;have e1:C.map (·%M)=C:=by
  conv=>rhs;rw[←ZJK C]
  exact ZHA λn hn=>ZJ5 (hC n hn).1 (hC n hn).2
 have e2:K%M=K:=ZJ5 hK.1 hK.2;have hd:A9 (2,M,C,K)=1:=by unfold A9;simp only[e1,hg]
 unfold Nf Ae FS;rw[ZGA (by simp),ZGA (by simp),hd];simp only[e1,e2];rw[ZGA (by simp[ZKB]),ZGA (by show¬M=((1:Nat):Int);omega)];simp
theorem jK{g:Nat}:∀{l:List Int},AW (l.map λn=>(g:Int)*n)=g*AW l|[]=>by simp[AW]|n::l=>by rw[ZGi,Td,jK (l:=l),Td,ZKY,ZJO,Nat.gcd_mul_left]
theorem ZDe{c:O}(hb:condB c)(h:(Ae c).2=0):Nf (Ae c).1:=by
 obtain⟨hn,hk1⟩:=aG hb h;obtain⟨hk,_⟩:=hb;have hs:∀b,(Dd b).2≠0:=λb=>by cases b<;>simp[Dd]
 rcases hk with hk|hk|⟨hk,EV,Iy⟩;·exact ZAu (by omega) (rL h (by omega)) (hn.2.1 (by omega))
 ·refine iM (by omega) ?_ (hn.2.1 (by omega)) (hn.2.2 (by omega));have hr:Ae c=CU c:=by simp[Ae,hk]
  rw[hr]at h⊢;unfold CU at h⊢;split at h;·exact absurd h (hs _)
  ·rename_i ha;rw[ZGA ha]
 ·have hr:Ae c=FS c:=by simp[Ae,hk]
  rw[hr]at h⊢;unfold FS at h⊢;split at h;·exact absurd h (hs _)
  split at h;·exact absurd h (hs _)
  rename_i ha hb;rw[ZGA ha,ZGA hb];have PG:(A9 c:Int)∣c.2.1:=NN (l:=c.2.1::c.2.2.1.map (·%c.2.1)) (by simp);have Tz:∀n∈c.2.2.1.map (·%c.2.1),(A9 c:Int)∣n:=λn hn=>NN (l:=c.2.1::c.2.2.1.map (·%c.2.1)) (by simp only[ZGe];exact .inr hn);have T1:(A9 c:Int)∣c.2.2.2%c.2.1:=Int.dvd_iff_tmod_eq_zero.2 (by simpa using ha);have Qx:0<A9 c:=Qd EV _;obtain⟨M,hM⟩:=PG;have e1:c.2.1.tdiv (A9 c)=M:=by rw[hM];exact Int.mul_tdiv_cancel_left _ (by omega)
  have GD:∀x:Int,(A9 c:Int)∣x→(A9 c:Int)*x.tdiv (A9 c)=x:=λx hx=>ZIm hx;have hMp:0<M:=by
   rcases ZKz 0 M with h|h;·exact h
   ·have :(A9 c:Int)*M≤0:=Int.mul_nonpos_of_nonneg_of_nonpos (by omega) h;omega
  have hM1:M≠1:=λe=>hb (by rw[hM,e,ZJx]);have small:∀x:Int,0≤x→x<c.2.1→(A9 c:Int)∣x→0≤x.tdiv (A9 c)∧x.tdiv (A9 c)<M:=λx h0 h1 hx=>by
   have hx':=GD x hx;refine⟨Int.tdiv_nonneg h0 (by omega),?_⟩;rcases ZKz (x.tdiv (A9 c)) M with h|h;·exact h
   ·have :=ZIX h (show(0:Int)≤(A9 c:Int)by omega);omega
  have HH:∀x:Int,0≤x%c.2.1∧x%c.2.1<c.2.1:=λx=>⟨ZHQ _ (by omega),ZHH _ (by omega)⟩;refine zL rfl (by show 2≤c.2.1.tdiv (A9 c);rw[e1];omega) (λn hn=>?_) ?_ ?_;·show 0≤n∧n<c.2.1.tdiv (A9 c);rw[e1];obtain⟨x,hx,rfl⟩:=List.mem_map.1 hn;have CB:=Tz x hx;obtain⟨y,hy,rfl⟩:=List.mem_map.1 hx;exact small _ (HH y).1 (HH y).2 CB
  ·show 0≤(c.2.2.2%c.2.1).tdiv (A9 c)∧(c.2.2.2%c.2.1).tdiv (A9 c)<c.2.1.tdiv (A9 c);rw[e1];exact small _ (HH _).1 (HH _).2 T1
  ·show AW (c.2.1.tdiv (A9 c)::(c.2.2.1.map (·%c.2.1)).map (·.tdiv (A9 c)))=1;have h1:=jK (g:=A9 c) (l:=c.2.1.tdiv (A9 c)::(c.2.2.1.map (·%c.2.1)).map (·.tdiv (A9 c)));have e:(c.2.1.tdiv (A9 c)::(c.2.2.1.map (·%c.2.1)).map (·.tdiv (A9 c))).map (λn=>(A9 c:Int)*n)=c.2.1::c.2.2.1.map (·%c.2.1):=by
    rw[ZGi,e1,←hM,ZHP];congr 1;conv=>rhs;rw[←ZJK (c.2.2.1.map (·%c.2.1))]
    exact ZHA λn hn=>GD n (Tz n hn)
   rw[e]at h1;have h2:A9 c=A9 c*AW (c.2.1.tdiv (A9 c)::(c.2.2.1.map (·%c.2.1)).map (·.tdiv (A9 c))):=h1;exact(Nat.eq_of_mul_eq_mul_left Qx (by rw[ZIM];exact h2)).symm
theorem ZDc{p:List O}(hb:BN p){c:O}(h:c∈Aq p):Nf c:=by simp only[Aq,ZGt,ZHx]at h;obtain⟨r,⟨⟨d,hd,rfl⟩,hr⟩,rfl⟩:=h;exact ZDe (hb.2 d hd) (by simpa using hr)
theorem ZEt{n:Nat}{c:O}(h:Mk n c)(h0:c.1=0):Nf (F6 c):=by have hk:=KM h h0;refine iM hk.2 ?_ (hk.1.1.2.1 (by rw[hk.2];omega)) (hk.1.1.2.2 hk.2);have hg:=h.gcd h0;simp[F6,Ae,CU,hg,ZKB]
theorem ZDf{q:List O}(h:∀c∈q,Nf c):CZ q=false∧Aq q=q:=by
 have e:q.map Ae=q.map λc=>(c,(0:Int)):=ZHA λc hc=>h c hc;constructor;·unfold CZ;rw[e,ZK0];simp
 ·unfold Aq;rw[e,List.filter_eq_self.2 λr hr=>by obtain⟨c,_,rfl⟩:=List.mem_map.1 hr;rfl,ZHP];exact ZJK q
def Fx(q:List O):Prop:=Af q=(q,false,0)
theorem ZEq{p:List O}{n:Nat}(hb:BN p)(hd:A3 p n)(h0:(Af p).2.2=0)(h1:(Af p).2.1=false):Fx (Af p).1:=by
 have hv:CZ p=false:=by cases hv:CZ p with|false=>rfl|true=>
  have e:Af p=([],true,0):=by have :=JA p;rw[hv]at this;simpa using this
  rw[e]at h1;cases h1
 have hok:=tV hb;have X8:=tT hb hd;obtain⟨s1,s2⟩:=Pz hb hd hv;have hl:=SD hb hd;have LQ:∀c,Lm (Aq p) c→Mk n c:=λc hc=>hl c hc.1;have hw1:¬Ii (Lm (Aq p)):=λh=>by rw[s1 (.inl h)]at h1;cases h1
 have IS:¬Hm (MM (Lm (Aq p))):=λh=>by rw[s1 (.inr h)]at h1;cases h1
 obtain⟨m,hm⟩:=bY hb hd hv hw1 IS;have kK:∀c,MM (Lm (Aq p)) c→Mk n c∧Nf c:=λc hc=>by
  rcases hc with⟨h,_⟩|⟨d,h,hd0,_,rfl⟩;·exact⟨LQ c h,ZDc hb h.1⟩
  ·exact⟨(KM (LQ d h) hd0).1,ZEt (LQ d h) hd0⟩
 have Gp:K3 m:=λc hc=>(kK c ((hm c).1 hc).1).1.2.1;have hs:=s2 hw1 IS m hm;have hlen:=bX p;have hq:(Af p).1=BB m:=by
  rw[hs]at h0⊢;split at h0;·cases h0
  ·rename_i hc;rw[ZGA hc]
 generalize(Af p).1=q at*;subst hq;have A4:∀x,x∈BB m↔Lt (MM (Lm (Aq p))) x:=λx=>by rw[Mt Gp,hm]
 have hnf:∀c∈BB m,Nf c:=λc hc=>(kK c ((A4 c).1 hc).1).2;obtain⟨v2,r2⟩:=ZDf hnf;have hL:∀{x},x∈BB m→x.1=0→Lm (Aq p) x∧¬FM (Lm (Aq p)) x:=λ{x}hx h0=>by
  rcases((A4 x).1 hx).1 with⟨h,h'⟩|⟨d,h,hd0,_,rfl⟩;·exact⟨h,h' h0⟩
  ·have :=(KM (LQ d h) hd0).2;omega
 have a1:∀x,Lm (BB m) x↔x∈BB m:=λx=>⟨λh=>h.1,λh=>⟨h,λh0 d hd hd0 he=>by have :=Lm.uniq hl (hL h h0).1 (hL hd hd0).1 h0 hd0 he.symm;rw[this];exact ZH4 _⟩⟩;have a1e:Lm (BB m)=(·∈BB m):=funext λx=>propext (a1 x);have opp:∀c,c.1=0→c∈BB m→¬FM (·∈BB m) c:=λc h0 hc⟨d,hd,hd0,h2,h3⟩=>(hL hc h0).2 ⟨d,(hL hd hd0).1,hd0,h2,h3⟩;have a2:∀x,MM (·∈BB m) x↔x∈BB m:=λx=>⟨λh=>by
  rcases h with⟨h,_⟩|⟨c,hc,h0,ho,_⟩;·exact h
  ·exact absurd ho (opp c h0 hc),λh=>.inl ⟨h,λh0=>opp x h0 h⟩⟩;have a2e:MM (·∈BB m)=(·∈BB m):=funext λx=>propext (a2 x);have a3:∀x,Lt (·∈BB m) x↔x∈BB m:=λx=>⟨λh=>h.1,λh=>⟨h,λh0 e he h1=>((A4 x).1 h).2 h0 e ((A4 e).1 he).1 h1⟩⟩;obtain⟨_,t2⟩:=Pz hok.B X8 v2;rw[r2,a1e,a2e]at t2;have Bk:¬Ii (·∈BB m):=λ⟨c,d,hc,hd,h0,h1,h2,h3⟩=>hw1 ⟨c,d,(hL hc h0).1,(hL hd h1).1,h0,h1,h2,h3⟩;have Kp:∀{x},x∈BB m→MM (Lm (Aq p)) x:=λ{x}hx=>((A4 x).1 hx).1;have CA:¬Hm (·∈BB m):=λh=>by
  rcases h with⟨e,f,he,hf,h1,h2,h3,h4⟩|⟨c,e,hc,he,h0,h1,h2⟩;·exact IS (.inl ⟨e,f,Kp he,Kp hf,h1,h2,h3,h4⟩)
  ·exact IS (.inr ⟨c,e,Kp hc,Kp he,h0,h1,h2⟩)
 have JU:=t2 Bk CA (BB m) λx=>(a3 x).symm;have ZBq:BB (BB m)=BB m:=(sZ (λc hc=>Gp c ((Mt Gp c).1 hc)) (VQ Gp) λc=>ZJC).symm;unfold Fx;rw[JU,ZBq,ZGA];rw[ZHn,ZGw];rintro(h|h);·rw[ZH8]at h;obtain⟨c,hc,h⟩:=h;rw[hok.2 c hc]at h;cases h
 ·omega
def Nm(l:List (List O)):Prop:=l.Nodup∧∀q∈l,Fx q
theorem ZEj{out out':List (List O)}{p:List O}{n:Nat}(hb:BN p)(hd:A3 p n)(h:BT out p=some out')(ho:Nm out):Nm out':=by
 unfold BT at h;split at h;·cases h
 ·rename_i h3;split at h;·cases h;exact ho
  ·rename_i h4;split at h;·cases h
   ·cases h;rw[ZGx]at h4;have hf:Fx (Af p).1:=ZEq hb hd (by simpa using h3) (by simpa using h4.1);refine⟨List.nodup_append.2 ⟨ho.1,by simp,λa ha b hb'=>?_⟩,λq hq=>?_⟩;·simp only[ZGT]at hb';subst hb';exact λe=>h4.2 (by rw[←e];exact ha)
    ·rcases List.mem_append.1 hq with h|h;·exact ho.2 q h
     ·simp only[ZGT]at h;subst h;exact hf
theorem tO{n:Nat}:∀{l out out':List (List O)},(∀p∈l,BN p∧A3 p n)→l.foldlM BT out=some out'→Nm out→Nm out'|[],out,out',_,h,ho=>by cases h;exact ho|p::l,out,out',hl,h,ho=>by rw[ZGc]at h;obtain⟨o1,h1,h2⟩:=Option.bind_eq_some_iff.1 h;obtain⟨hb,hd⟩:=hl p (by simp);exact tO (λq hq=>hl q (ZGK _ hq)) h2 (ZEj hb hd h1 ho)
theorem Nm.nil:Nm []:=⟨List.nodup_nil,λq hq=>by cases hq⟩
theorem Nm.again:∀{l out:List (List O)},Nm (out++l)→(out++l).length≤400→l.foldlM BT out=some (out++l)
 |[],out,_,_=>by simp|q::l,out,h,hl=>by
  have hf:Af q=(q,false,0):=h.2 q (by simp);have hn:q∉out:=λhm=>by have :=(List.nodup_append.1 h.1).2.2 q hm q (by simp);exact this rfl
  have hs:BT out q=some (out++[q]):=by unfold BT;rw[hf];simp only[ZJy,ZI8,ZHM,ZGh,false_or,ZGA hn];rw[ZGA];simp only[ZGI,ZGL]at hl;omega
  rw[ZGc,hs];have e:out++q::l=out++[q]++l:=by simp
  rw[e]at h hl⊢;exact Nm.again h hl
def OT(s:AM):Prop:=AY s=true∧AX s=(s,0)
theorem OT.of{n:Int}{l:List (List O)}(h0:0≤n)(h1:n≤12)(hp:PD n.toNat l)(hn:Nm l):OT (n,l):=by have hv:=ZD2 h0 h1 hp;refine⟨hv,?_⟩;unfold AX;rw[ZGA (by rw[hv];simp)];have :Bg l=some l:=Nm.again (out:=[]) (by simpa using hn) (by simpa using hp.1.1);rw[this];rfl
theorem PD.of_tid{n:Nat}{l out:List (List O)}(hl:∀p∈l,BN p∧A3 p n)(h:Bg l=some out):PD n out∧Nm out:=⟨⟨Vc h PP.nil λp hp=>(hl p hp).1,SV h (by simp) hl⟩,tO hl h Nm.nil⟩
theorem OT.tid{n:Int}{l:List (List O)}(h0:0≤n)(h1:n≤12)(hl:∀p∈l,BN p∧A3 p n.toNat)(h:(GO n (Bg l)).2=0):OT (GO n (Bg l)).1:=by obtain⟨out,h2,h3⟩:=Ro h;rw[h3];obtain⟨a,b⟩:=PD.of_tid hl h2;exact OT.of h0 h1 a b
set_option maxRecDepth 4000
theorem RZ{s:AM}{x:List Int}(hv:AY s=true)(hl:x.length=s.1.toNat)(hc:x.all DA=true):Cs.pre (s,(x,())):=wC (ZD3 hv) hl hc
abbrev Part:=O×Int×AN
abbrev Pc:=Int×List O×List Part×Int×List Part×List Part×List Part
abbrev CL:Part:=(U,0,[],0)
def AR(n:Int):Int:=max n (-n)
def Z(v:Nat)(c:O):Int:=c.2.2.1.getD v 0
def AI(v:Nat)(c:O):AN:=(Az c.2.2.1 v,c.2.2.2)
def GR(v:Nat)(c:O):O:=(c.1,c.2.1,AI v c)
def Ax(v:Nat)(c:O):Part:=(c,Z v c,AI v c)
def BU{α:Type}(d:α)(l:List α):List (Nat×α):=(List.range l.length).map λi=>(i,l.getD i d)
abbrev Bm.fn(x:Int×AN×Int×AN×Unit):AN:=BD x.1 x.2.1 x.2.2.1 x.2.2.2.1
abbrev Bm.pre(x:Int×AN×Int×AN×Unit):Prop:=BY.pre x
abbrev DV.fn(x:AN×Int×Unit):AN:=(x.1.1,x.1.2+x.2.1)
abbrev DV.pre(x:AN×Int×Unit):Prop:=Hk x.1∧-1048576≤x.2.1∧x.2.1≤1048576
abbrev BV.fn(x:Int×Unit):Int:=AR x.1
abbrev BV.pre(x:Int×Unit):Prop:=CF x.1
abbrev Eb.fn(x:Int×Int×Unit):AN:=(List.replicate x.1.toNat 0,x.2.1)
abbrev Eb.pre(x:Int×Int×Unit):Prop:=0≤x.1∧x.1≤1048576
def DF(l:List Int):Nat:=l.foldl (λm n=>Nat.lcm m n.natAbs) 1
def DE(l:List Int):Int×Int:=if(l.any λn=>decide (n<1))=true then(0,1)else if 512<DF l then(0,3)else((DF l:Nat),0)
abbrev EC.fn(x:Int×Int×Unit):Int:=if(decide ((512:Int)<x.1)||decide ((512:Int)<IntKind.wrap IntKind.u64 x.2.1))=true then 513 else IntKind.wrap IntKind.u64 ( IntKind.wrap IntKind.u64 (Int.tdiv x.1 (ED.fn (x.1,IntKind.wrap IntKind.u64 x.2.1,())))*IntKind.wrap IntKind.u64 x.2.1)
abbrev EC.pre(x:Int×Int×Unit):Prop:=1≤x.2.1∧x.2.1≤9223372036854775807
abbrev BP.fn(x:List Int×Unit):Int×Int:=DE x.1
abbrev BP.pre(x:List Int×Unit):Prop:=D7 x.1
abbrev Dc.fn(x:List Int×Unit):Int×Int:=DE x.1
abbrev Dc.pre(x:List Int×Unit):Prop:=D7 x.1
def NJ(l:List Int)(st:Int×Int):Int×Int:=(BU 0 l).foldl (λst ia=>if ia.2=0 then st else(if ia.2=1∨ia.2=-1 then max st.1 (ia.1:Int)else st.1,max st.2 (ia.1:Int))) st
def Ir(p:List O):Int×Int:=p.foldl (λst c=>if c.1=1 then NJ c.2.2.1 st else st) (-1,-1)
def Ep(p:List O)(v:Nat):Nat:=(p.filter λc=>decide (c.1=0∧0<Z v c)).length
def Ez(p:List O)(v:Nat):Nat:=(p.filter λc=>decide (c.1=0∧Z v c<0)).length
def Ho(p:List O)(v:Nat):Nat:=Ep p v*Ez p v
def E6(p:List O)(n:Nat):Nat:=(List.range n).foldl (λb v=>if Ho p v≤Ho p b then v else b) 0
def Cf(p:List O)(n:Int):Int:=if 0≤(Ir p).1 then(Ir p).1 else if 0≤(Ir p).2 then(Ir p).2 else(E6 p n.toNat:Nat)
def pieceN(p:List O)(n:Int):Prop:=p.length≤400∧(∀c∈p,AG c=true∧(c.2.2.1.length:Int)=n)∧0≤n∧n≤12
abbrev Eg.fn(x:List O×Int×Unit):Int:=Cf x.1 x.2.1
abbrev Eg.pre(x:List O×Int×Unit):Prop:=pieceN x.1 x.2.1
abbrev Eu.fn(x:List O×Int×Unit):Int:=Cf x.1 x.2.1
abbrev Eu.pre(x:List O×Int×Unit):Prop:=pieceN x.1 x.2.1
def JL(v:Nat)(p:List O)(e:Int)(i:Nat):Int:=if Z v (p.getD i U)≠0∧(p.getD i U).1=1∧(e<0∨AR (Z v (p.getD i U))<AR (Z v (p.getD e.toNat U)))then(i:Int)else e
def Eh(v:Nat)(p:List O):Int:=(List.range p.length).foldl (JL v p) (-1)
def Fg(v:Nat)(e c:O):O:=(c.1,c.2.1*AR (Z v e),BD (AR (Z v e)) (AI v c) (Z v c*if Z v e<0 then 1 else-1) (AI v e))
def H6(v:Nat)(p:List O)(i:Nat):List O:=((BU U p).filter λjc=>decide (jc.1≠i)).map (λjc=>if Z v jc.2=0 then GR v jc.2 else Fg v (p.getD i U) jc.2)++if 1<AR (Z v (p.getD i U))then[(2,AR (Z v (p.getD i U)),AI v (p.getD i U))]else[]
def Ba(v:Nat)(p:List O):List O:=(p.filter λc=>decide (Z v c=0)).map (GR v)
def AK(v:Nat)(p:List O):List O:=p.filter λc=>decide (Z v c≠0)
def Ak(v:Nat)(p:List O):List O:=p.filter λc=>decide (Z v c≠0∧c.1≠1∧c.1≠2∧0<Z v c)
def Aj(v:Nat)(p:List O):List O:=p.filter λc=>decide (Z v c≠0∧c.1≠1∧c.1≠2∧¬0<Z v c)
def Cc(v:Nat)(p:List O):List O:=p.filter λc=>decide (Z v c≠0∧c.1=2)
def Js(v:Nat)(p:List O):Bool:=(Cc v p).isEmpty&&(Ak v p).all λx=>(Aj v p).all λy=>decide (Z v x=1∨Z v y=-1)
def Kw(v:Nat)(x y:O):O:=(0,0,BD (Z v x) (AI v y) (-Z v y) (AI v x))
def I6(v:Nat)(p:List O):List O:=Ba v p++(Ak v p).flatMap λx=>(Aj v p).map (Kw v x)
def Ac(v:Nat)(p:List O):Int×Int:=DE ((AK v p).map λc=>AR (Z v c))
def Ad(v:Nat)(l:Int)(c:O):Int:=l.tdiv (AR (Z v c))
def Ce(v:Nat)(p:List O)(l:Int):Int×Int:=DE (l::((AK v p).filter λc=>decide (c.1=2)).map λc=>c.2.1*Ad v l c)
def C3(n:Int):Int:=if n<0 then-1 else 1
def Dp(v:Nat)(l:Int)(c:O):AN:=((AI v c).1.map λn=>Ad v l c*n,Ad v l c*(AI v c).2)
def Mu(v:Nat)(l:Int)(w:AN)(c:O):O:=(c.1,c.2.1*Ad v l c,BD 1 (Dp v l c) (C3 (Z v c)) w)
def CQ(v:Nat)(p:List O)(l:Int)(w:AN)(all:Bool):List O:=Ba v p++((AK v p).filter λc=>all||decide (c.1=2)).map (Mu v l w)++[(2,l,w)]
def C7(v:Nat)(p:List O):Bool:=decide ((Ak v p).length≤(Aj v p).length)
def Dx(v:Nat)(l:Int)(c:O)(low:Bool)(j:Nat):AN:=if low then((Dp v l c).1.map λn=>-1*n,-1*(Dp v l c).2+j)else((Dp v l c).1,(Dp v l c).2+-j)
def I7(v:Nat)(p:List O):List O:=(AK v p).filter λc=>decide (c.1≠2∧decide (0<Z v c)=C7 v p)
def DJ(v:Nat)(p:List O)(n:Nat)(l:Int)(d:Nat):List (List O):=if Ak v p=[]∨Aj v p=[]then(List.range d).map λ(j:Nat)=>CQ v p l (List.replicate n 0,(j:Int)) false else(I7 v p).flatMap λc=>(List.range d).map λj=>CQ v p l (Dx v l c (C7 v p) j) true
def Dq(p:List O)(n v:Nat):Option (List (List O)):=if 0≤Eh v p then some [H6 v p (Eh v p).toNat]else if Cc v p=[]∧(Ak v p=[]∨Aj v p=[])then some [Ba v p]else if Js v p=true then some [I6 v p]else if(Ac v p).2≠0 then none else if(Ce v p (Ac v p).1).2≠0 then none else some (DJ v p (n-1) (Ac v p).1 (Ce v p (Ac v p).1).1.toNat)
def GN(l:List (List O)):List (List O)×Int:=match Bg l with|none=>([],3)|some out=>(out,0)
def BE(p:List O)(n v:Int):List (List O)×Int:=match Dq p n.toNat v.toNat with|none=>([],3)|some l=>GN l
abbrev Dt.fn(x:List O×Int×Int×Unit):List (List O)×Int:=BE x.1 x.2.1 x.2.2.1
abbrev Dt.pre(x:List O×Int×Int×Unit):Prop:=pieceN x.1 x.2.1∧0≤x.2.2.1∧x.2.2.1<x.2.1
abbrev EO.fn(x:List O×Int×Int×Unit):List (List O)×Int:=BE x.1 x.2.1 x.2.2.1
abbrev EO.pre(x:List O×Int×Int×Unit):Prop:=Dt.pre x
abbrev Ct.fn(x:List (List O)×Unit):List (List O)×Int:=GN x.1
abbrev Ct.pre(x:List (List O)×Unit):Prop:=EN.pre x
def Uq(n:Nat)(c:O):Prop:=(-1048576≤c.2.1∧c.2.1≤1048576)∧Hk c.2.2∧c.2.2.1.length=n
abbrev DH.fn(x:O×Int×Int×Int×AN×Unit):O:=(x.1.1,x.1.2.1*x.2.2.1,BD x.2.2.1 (AI x.2.1.toNat x.1) (Z x.2.1.toNat x.1*x.2.2.2.1) x.2.2.2.2.1)
abbrev DH.pre(x:O×Int×Int×Int×AN×Unit):Prop:=(∃n,Uq n x.1∧n≤4096∧x.2.2.2.2.1.1.length+1=n∧0≤x.2.1∧x.2.1<(n:Int))∧(-1048576≤Z x.2.1.toNat x.1∧Z x.2.1.toNat x.1≤1048576)∧(-1048576≤x.2.2.1∧x.2.2.1≤1048576)∧(x.2.2.2.1=1∨x.2.2.2.1=-1)∧Hk x.2.2.2.2.1
abbrev Fo.fn(x:List O×Int×Int×Unit):List O:=H6 x.2.2.1.toNat x.1 x.2.1.toNat
abbrev Fo.pre(x:List O×Int×Int×Unit):Prop:=(∃n,pieceN x.1 n∧0≤x.2.2.1∧x.2.2.1<n)∧0≤x.2.1∧x.2.1<(x.1.length:Int)∧Z x.2.2.1.toNat (x.1.getD x.2.1.toNat U)≠0
def SH(p free:List O)(v:Nat):List (List O)×Int:=if(Ac v p).2≠0 then([],3)else if(Ce v p (Ac v p).1).2≠0 then([],3)else GN (DJ v p ((p.getD 0 U).2.2.1.length-1) (Ac v p).1 (Ce v p (Ac v p).1).1.toNat)
abbrev D0.fn(x:List O×List O×Int×Unit):List (List O)×Int:=SH x.1 x.2.1 x.2.2.1.toNat
abbrev D0.pre(x:List O×List O×Int×Unit):Prop:=(∃n,pieceN x.1 n∧0≤x.2.2.1∧x.2.2.1<n)∧x.2.1=Ba x.2.2.1.toNat x.1∧AK x.2.2.1.toNat x.1≠[]∧∀c∈AK x.2.2.1.toNat x.1,c.1≠1
def Ph(k:Nat)(q:Part):Prop:=(-1048576≤q.1.2.1∧q.1.2.1≤1048576)∧(-1048576≤q.2.1∧q.2.1≤1048576)∧Hk q.2.2∧q.2.2.1.length=k
def Sm(k:Nat)(x:Pc):Prop:=x.2.1.length≤400∧(x.2.2.1.length≤400∧∀q∈x.2.2.1,Ph k q)∧(x.2.2.2.2.1.length≤400∧∀q∈x.2.2.2.2.1,Ph k q)∧x.2.2.2.2.2.1.length≤400∧∀q∈x.2.2.2.2.2.1,Ph k q
def Mo(e q:Part):O:=(q.1.1,AR e.2.1*q.1.2.1,BD (AR e.2.1) q.2.2 ((if e.2.1<0 then 1 else-1)*q.2.1) e.2.2)
def Ms(x:Pc):List O:=x.2.1++((BU CL x.2.2.1).filter λjq=>decide ((jq.1:Int)≠x.2.2.2.1)).map (λjq=>Mo (x.2.2.1.getD x.2.2.2.1.toNat CL) jq.2)++if 1<AR (x.2.2.1.getD x.2.2.2.1.toNat CL).2.1 then[(2,AR (x.2.2.1.getD x.2.2.2.1.toNat CL).2.1,(x.2.2.1.getD x.2.2.2.1.toNat CL).2.2)]else[]
abbrev Fu.fn(x:Pc×Unit):List (List O):=[Ms x.1]
abbrev Fu.pre(x:Pc×Unit):Prop:=(∃k,Sm k x.1)∧0≤x.1.2.2.2.1∧x.1.2.2.2.1<(x.1.2.2.1.length:Int)
abbrev FT.fn(x:Pc×Unit):List (List O):=[x.1.2.1++x.1.2.2.2.2.1.flatMap λl=>x.1.2.2.2.2.2.1.map λu=>(0,0,BD l.2.1 u.2.2 (-u.2.1) l.2.2)]
abbrev FT.pre(x:Pc×Unit):Prop:=∃k,Sm k x.1
abbrev CM.fn(x:Pc×Int×AN×Bool×Unit):List O:=x.1.2.1++(x.1.2.2.1.filter λq=>x.2.2.2.1||decide (q.1.1=2)).map (λq=>(q.1.1,q.1.2.1,BD 1 q.2.2 (q.2.1.tdiv x.2.1) x.2.2.1))++[(2,x.2.1,x.2.2.1)]
abbrev CM.pre(x:Pc×Int×AN×Bool×Unit):Prop:=(∃k,Sm k x.1∧x.2.2.1.1.length=k)∧x.2.1≠0∧Hk x.2.2.1
def Oj(n v:Int)(l:List (List O)):Option (List (List O)):=l.foldlM (λall p=>if(BE p n v).2≠0 then none else some (all++(BE p n v).1)) []
def Ar(s:AM)(v:Int):AM×Int:=if AY s=false then((0,[]),1)else if v<0∨s.1≤v then((0,[]),6)else if(AX s).2≠0 then((0,[]),(AX s).2)else match Oj s.1 v (AX s).1.2 with|none=>((0,[]),3)|some all=>GO (s.1-1) (Bg all)
abbrev DU.fn(x:AM×Int×Unit):AM×Int:=Ar x.1 x.2.1
abbrev GZ.fn(x:AM×Int×Unit):AM×Int:=Ar x.1 x.2.1
def Cm(f:List O→Bool×Int):List (List O)→Bool×Int|[]=>(false,0)|p::l=>if(f p).1=true∨(f p).2≠0 then f p else Cm f l
def Bc:Nat→List O→Bool×Int|0,_=>(true,0)|n+1,p=>if(BE p (n+1:Nat) (Cf p (n+1:Nat))).2≠0 then(false,(BE p (n+1:Nat) (Cf p (n+1:Nat))).2)else Cm (Bc n) (BE p (n+1:Nat) (Cf p (n+1:Nat))).1
abbrev Bj.fn(x:List O×Int×Unit):Bool×Int:=Bc x.2.1.toNat x.1
abbrev Bj.pre(x:List O×Int×Unit):Prop:=pieceN x.1 x.2.1
abbrev Bj.preN(N:Nat)(x:List O×Int×Unit):Prop:=pieceN x.1 x.2.1∧x.2.1<(N:Int)
def DW(s:AM):Bool×Int:=if AY s=false then(false,1)else if(AX s).2≠0 then(false,(AX s).2)else if(Cm (Bc s.1.toNat) (AX s).1.2).1=true∨(Cm (Bc s.1.toNat) (AX s).1.2).2≠0 then(false,(Cm (Bc s.1.toNat) (AX s).1.2).2)else(true,0)
abbrev Aw.fn(x:AM×Unit):Bool×Int:=DW x.1
abbrev Do.fn(x:AM×Unit):Bool×Int:=DW x.1
def Jl(m:ByteArray→Option Bool):Prop:=∀p n b,m (CP (DP p))=some b→pieceN p n→1≤n→Bc n.toNat p=(b,0)
def OZ(a:List O×Int)(m:ByteArray→Option Bool):Prop:=pieceN a.1 a.2∧Jl m
def LD(N:Nat)(a:List O×Int)(m:ByteArray→Option Bool):Prop:=OZ a m∧a.2<(N:Int)
def Jn(a:List O×Int)(m:ByteArray→Option Bool)(r:Bool×Int)(m':ByteArray→Option Bool):Prop:=r=(if(Bc a.2.toNat a.1).2≠0 then(false,(Bc a.2.toNat a.1).2)else Bc a.2.toNat a.1)∧Jl m'
def Bm.wp(x0:Int)(x1:AN)(x2:Int)(x3:AN)(Q:AN→Prop):Prop:=(0≤(x1.1.length:Int)∧x1.1.length≤(x1.1.length:Int)∧x1.1.length*((8:Nat):Int)≤140737488355328∧(x1.1.length:Int)≤9223372036854775807)∧AA .i64 (x0*x1.2)∧AA .i64 (x2*x3.2)∧AA .i64 ( x0*x1.2+x2*x3.2)∧Lp (σ:=Int×List Int) (λy5 R5=>let v2:=x1.1.getD y5.1.toNat 0;let v3:=x3.1.getD y5.1.toNat 0;cond (decide (y5.1<x1.1.length)) ((0≤y5.1∧y5.1<x1.1.length)∧AA .i64 (x0*v2)∧(0≤y5.1∧y5.1<x3.1.length)∧AA .i64 (x2*v3)∧AA .i64 ( x0*v2+x2*v3)∧(0≤y5.1∧y5.1<y5.2.length)∧Int.toNat y5.1<y5.2.length∧AA .i64 (y5.1+1)∧R5 ( y5.1+1,List.set y5.2 y5.1.toNat ( x0*v2+x2*v3))) (Q (y5.2,x0*x1.2+x2*x3.2))) (0,.replicate (Int.toNat x1.1.length) 0)
def DV.wp(x0:AN)(x1:Int)(Q:AN→Prop):Prop:=x0.1.length*8≤140737488355328∧AA .i64 (x0.2+x1)∧Q (x0.1,x0.2+x1)
def Eg.wp(x0:List O)(x1:Int)(Q:Int→Prop):Prop:=let v0:=List.replicate x1.toNat 0;(0≤x1∧x1≤x1∧x1*((8:Nat):Int)≤140737488355328∧x1≤9223372036854775807)∧(0≤x1∧x1≤x1∧x1*((8:Nat):Int)≤140737488355328∧x1≤9223372036854775807)∧Lp (σ:=Int×Int×Int×List Int×List Int) (λy3 R3=>let v1:=x0.getD y3.1.toNat U;cond (decide (y3.1<x0.length)) ((0≤y3.1∧y3.1<x0.length)∧Lp (σ:=Int×Int×Int×List Int×List Int) (λy5 R5=>let v2:=v1.2.2.1.getD y5.1.toNat 0;let v3:=y5.2.2.2.1.getD y5.1.toNat 0;let v5:=y5.2.2.2.2.getD y5.1.toNat 0;cond (decide (y5.1<v1.2.2.1.length)) ((0≤y5.1∧y5.1<v1.2.2.1.length)∧cond (v2==0) (AA .i64 (y5.1+1)∧R5 ( y5.1+1,y5.2)) (cond (v1.1==1) (((! v2==1)=true→(! v2==1)=true∧True)∧((v2==1)=false→! v2==1=true)∧cond ( v2==1||v2==-1) (AA .i64 (y5.1+1)∧R5 ( y5.1+1,(max y5.2.1 y5.1,(max y5.2.2.1 y5.1,y5.2.2.2)))) (AA .i64 (y5.1+1)∧R5 ( y5.1+1,(y5.2.1,(max y5.2.2.1 y5.1,y5.2.2.2))))) (((v1.1==0)=true→(v1.1==0)=true∧True)∧((v1.1==0)=true→(v1.1==0)=true)∧cond ( v1.1==0&&decide (0<v2)) ((0≤y5.1∧y5.1<y5.2.2.2.1.length)∧Int.toNat y5.1<y5.2.2.2.1.length∧AA .i64 (v3+1)∧(0≤y5.1∧y5.1<y5.2.2.2.1.length)∧Int.toNat y5.1<y5.2.2.2.1.length∧AA .i64 (y5.1+1)∧R5 ( y5.1+1,(y5.2.1,(y5.2.2.1,( List.set y5.2.2.2.1 y5.1.toNat (v3+1),y5.2.2.2.2))))) (cond (v1.1==0) ((0≤y5.1∧y5.1<y5.2.2.2.2.length)∧Int.toNat y5.1<y5.2.2.2.2.length∧AA .i64 (v5+1)∧(0≤y5.1∧y5.1<y5.2.2.2.2.length)∧Int.toNat y5.1<y5.2.2.2.2.length∧AA .i64 (y5.1+1)∧R5 ( y5.1+1,(y5.2.1,(y5.2.2.1,(y5.2.2.2.1,List.set y5.2.2.2.2 y5.1.toNat (v5+1)))))) (AA .i64 (y5.1+1)∧R5 ( y5.1+1,y5.2)))))) (AA .i64 (y3.1+1)∧R3 ( y3.1+1,y5.2))) (0,y3.2)) (cond (decide (0≤y3.2.1)) (Q y3.2.1) (cond (decide (0≤y3.2.2.1)) (Q y3.2.2.1) (Lp (σ:=Int×Int) (λy5 R5=>let v7:=y3.2.2.2.1.getD y5.1.toNat 0;let v8:=y3.2.2.2.2.getD y5.1.toNat 0;let v9:=y3.2.2.2.1.getD y5.2.toNat 0;let v10:=y3.2.2.2.2.getD y5.2.toNat 0;cond (decide (y5.1<x1)) ((0≤y5.1∧y5.1<y3.2.2.2.1.length)∧Int.toNat y5.1<y3.2.2.2.1.length∧(0≤y5.1∧y5.1<y3.2.2.2.2.length)∧Int.toNat y5.1<y3.2.2.2.2.length∧AA .i64 (v7*v8)∧(0≤y5.2∧y5.2<y3.2.2.2.1.length)∧Int.toNat y5.2<y3.2.2.2.1.length∧(0≤y5.2∧y5.2<y3.2.2.2.2.length)∧Int.toNat y5.2<y3.2.2.2.2.length∧AA .i64 (v9*v10)∧cond (decide ( v7*v8≤v9*v10)) (AA .i64 (y5.1+1)∧R5 ( y5.1+1,y5.1)) (AA .i64 (y5.1+1)∧R5 ( y5.1+1,y5.2))) (Q y5.2)) (0,0))))) (0,(-1,(-1,(v0,v0))))
def Fu.wp(x0:Int×List O×List (O×Int×AN)×Int×List (O×Int×AN)×List (O×Int×AN)×List (O×Int×AN))(Q:List (List O)→Prop):Prop:=let v0:=x0.2.2.1.getD x0.2.2.2.1.toNat (U,(0,(([]:List Int),0)));let v5:=List.length ([]:List O);(0≤x0.2.2.2.1∧x0.2.2.2.1<x0.2.2.1.length)∧Ge (λy2=>let v4:=[(2,(y2.1,v0.2.2))];∀b3:Bool,(b3=true→x0.2.1=([]:List O))→cond b3 (Lp (σ:=Int×List O) (λy4 R4=>let v1:=x0.2.2.1.getD y4.1.toNat (U,(0,(([]:List Int),0)));let v3:=[(v1.1.1,( y2.1*v1.1.2.1,Bm.fn (y2.1,(v1.2.2,(-y2.2.1*v1.2.1,(v0.2.2,()))))))];cond (decide (y4.1<x0.2.2.1.length)) ((0≤y4.1∧y4.1<x0.2.2.1.length)∧cond (y4.1 !=x0.2.2.2.1) (AA .i64 (y2.1*v1.1.2.1)∧AA .i64 (-y2.2.1)∧AA .i64 (-y2.2.1*v1.2.1)∧Bm.pre (y2.1,(v1.2.2,(-y2.2.1*v1.2.1,(v0.2.2,()))))∧((y4.2.length+v3.length)*48≤140737488355328∧y4.2.length+v3.length≤9223372036854775807)∧AA .i64 (y4.1+1)∧R4 ( y4.1+1,y4.2++v3)) (AA .i64 (y4.1+1)∧R4 ( y4.1+1,y4.2))) (cond (decide (1<y2.1)) (((y4.2.length+v4.length)*48≤140737488355328∧y4.2.length+v4.length≤9223372036854775807)∧Q [y4.2++v4]) (Q [y4.2]))) (0,([]:List O))) (((v5+x0.2.1.length)*48≤140737488355328∧v5+x0.2.1.length≤9223372036854775807)∧Lp (σ:=Int×List O) (λy4 R4=>let v1:=x0.2.2.1.getD y4.1.toNat (U,(0,(([]:List Int),0)));let v3:=[(v1.1.1,( y2.1*v1.1.2.1,Bm.fn (y2.1,(v1.2.2,(-y2.2.1*v1.2.1,(v0.2.2,()))))))];cond (decide (y4.1<x0.2.2.1.length)) ((0≤y4.1∧y4.1<x0.2.2.1.length)∧cond (y4.1 !=x0.2.2.2.1) (AA .i64 (y2.1*v1.1.2.1)∧AA .i64 (-y2.2.1)∧AA .i64 (-y2.2.1*v1.2.1)∧Bm.pre (y2.1,(v1.2.2,(-y2.2.1*v1.2.1,(v0.2.2,()))))∧((y4.2.length+v3.length)*48≤140737488355328∧y4.2.length+v3.length≤9223372036854775807)∧AA .i64 (y4.1+1)∧R4 ( y4.1+1,y4.2++v3)) (AA .i64 (y4.1+1)∧R4 ( y4.1+1,y4.2))) (cond (decide (1<y2.1)) (((y4.2.length+v4.length)*48≤140737488355328∧y4.2.length+v4.length≤9223372036854775807)∧Q [y4.2++v4]) (Q [y4.2]))) (0,([]:List O)++x0.2.1))) λJ2=>cond (decide (v0.2.1<0)) (AA .i64 (-v0.2.1)∧J2 (-v0.2.1,(-1,(decide (v0.2.1<0),v0.2.1)))) (J2 (v0.2.1,(1,(decide (v0.2.1<0),v0.2.1))))
def FT.wp(x0:Int×List O×List (O×Int×AN)×Int×List (O×Int×AN)×List (O×Int×AN)×List (O×Int×AN))(Q:List (List O)→Prop):Prop:=let v0:=x0.2.2.2.2.1.length;let v1:=x0.2.2.2.2.2.1.length;let v6:=List.length ([]:List O);∀b2:Bool,(b2=true→x0.2.1=([]:List O))→cond b2 (Lp (σ:=Int×List O) (λy3 R3=>let v3:=x0.2.2.2.2.1.getD y3.1.toNat (U,(0,(([]:List Int),0)));cond (decide (y3.1<((v0:Nat):Int))) ((0≤y3.1∧y3.1<((v0:Nat):Int))∧Lp (σ:=Int×List O) (λy5 R5=>let v2:=x0.2.2.2.2.2.1.getD y5.1.toNat (U,(0,(([]:List Int),0)));let v5:=[(0,(0,Bm.fn (v3.2.1,(v2.2.2,(-v2.2.1,(v3.2.2,()))))))];cond (decide (y5.1<((v1:Nat):Int))) ((0≤y5.1∧y5.1<((v1:Nat):Int))∧AA .i64 (-v2.2.1)∧Bm.pre (v3.2.1,(v2.2.2,(-v2.2.1,(v3.2.2,()))))∧((y5.2.length+v5.length)*48≤140737488355328∧y5.2.length+v5.length≤9223372036854775807)∧AA .i64 (y5.1+1)∧R5 ( y5.1+1,y5.2++v5)) (AA .i64 (y3.1+1)∧R3 ( y3.1+1,y5.2))) (0,y3.2)) (Q [y3.2])) (0,([]:List O))) (((v6+x0.2.1.length)*48≤140737488355328∧v6+x0.2.1.length≤9223372036854775807)∧Lp (σ:=Int×List O) (λy3 R3=>let v3:=x0.2.2.2.2.1.getD y3.1.toNat (U,(0,(([]:List Int),0)));cond (decide (y3.1<((v0:Nat):Int))) ((0≤y3.1∧y3.1<((v0:Nat):Int))∧Lp (σ:=Int×List O) (λy5 R5=>let v2:=x0.2.2.2.2.2.1.getD y5.1.toNat (U,(0,(([]:List Int),0)));let v5:=[(0,(0,Bm.fn (v3.2.1,(v2.2.2,(-v2.2.1,(v3.2.2,()))))))];cond (decide (y5.1<((v1:Nat):Int))) ((0≤y5.1∧y5.1<((v1:Nat):Int))∧AA .i64 (-v2.2.1)∧Bm.pre (v3.2.1,(v2.2.2,(-v2.2.1,(v3.2.2,()))))∧((y5.2.length+v5.length)*48≤140737488355328∧y5.2.length+v5.length≤9223372036854775807)∧AA .i64 (y5.1+1)∧R5 ( y5.1+1,y5.2++v5)) (AA .i64 (y3.1+1)∧R3 ( y3.1+1,y5.2))) (0,y3.2)) (Q [y3.2])) (0,([]:List O)++x0.2.1))
def CM.wp(x0:Int×List O×List (O×Int×AN)×Int×List (O×Int×AN)×List (O×Int×AN)×List (O×Int×AN))(x1:Int)(x2:AN)(x3:Bool)(Q:List O→Prop):Prop:=let v3:=List.length [((2:Int),(x1,x2))];let v4:=List.length ([]:List O);∀b5:Bool,(b5=true→x0.2.1=([]:List O))→cond b5 (Lp (σ:=Int×List O) (λy6 R6=>let v0:=x0.2.2.1.getD y6.1.toNat (U,(0,(([]:List Int),0)));let v2:=[(v0.1.1,(v0.1.2.1,Bm.fn (1,(v0.2.2,(Int.tdiv v0.2.1 x1,(x2,()))))))];cond (decide (y6.1<x0.2.2.1.length)) ((0≤y6.1∧y6.1<x0.2.2.1.length)∧((!x3)=true→(!x3)=true∧True)∧((!x3)=true→(!x3)=true∧True)∧((!x3)=true→(!x3)=true∧True)∧(x3=false→(!x3)=true)∧cond (x3||v0.1.1==2) ((x1≠0∧AA .i64 (Int.tdiv v0.2.1 x1))∧Bm.pre (1,(v0.2.2,(Int.tdiv v0.2.1 x1,(x2,()))))∧((y6.2.length+v2.length)*48≤140737488355328∧y6.2.length+v2.length≤9223372036854775807)∧AA .i64 (y6.1+1)∧R6 ( y6.1+1,y6.2++v2)) (AA .i64 (y6.1+1)∧R6 ( y6.1+1,y6.2))) (((y6.2.length+v3)*48≤140737488355328∧y6.2.length+v3≤9223372036854775807)∧Q (y6.2++[(2,(x1,x2))]))) (0,([]:List O))) (((v4+x0.2.1.length)*48≤140737488355328∧v4+x0.2.1.length≤9223372036854775807)∧Lp (σ:=Int×List O) (λy6 R6=>let v0:=x0.2.2.1.getD y6.1.toNat (U,(0,(([]:List Int),0)));let v2:=[(v0.1.1,(v0.1.2.1,Bm.fn (1,(v0.2.2,(Int.tdiv v0.2.1 x1,(x2,()))))))];cond (decide (y6.1<x0.2.2.1.length)) ((0≤y6.1∧y6.1<x0.2.2.1.length)∧((!x3)=true→(!x3)=true∧True)∧((!x3)=true→(!x3)=true∧True)∧((!x3)=true→(!x3)=true∧True)∧(x3=false→(!x3)=true)∧cond (x3||v0.1.1==2) ((x1≠0∧AA .i64 (Int.tdiv v0.2.1 x1))∧Bm.pre (1,(v0.2.2,(Int.tdiv v0.2.1 x1,(x2,()))))∧((y6.2.length+v2.length)*48≤140737488355328∧y6.2.length+v2.length≤9223372036854775807)∧AA .i64 (y6.1+1)∧R6 ( y6.1+1,y6.2++v2)) (AA .i64 (y6.1+1)∧R6 ( y6.1+1,y6.2))) (((y6.2.length+v3)*48≤140737488355328∧y6.2.length+v3≤9223372036854775807)∧Q (y6.2++[(2,(x1,x2))]))) (0,([]:List O)++x0.2.1))
def EC.wp(x0:Int)(x1:Int)(Q:Int→Prop):Prop:=let v0:=IntKind.wrap .u64 x1;let v1:=ED.fn (x0,(v0,()));((! decide (512<x0))=true→(! decide (512<x0))=true∧True)∧((! decide (512<x0))=true→(! decide (512<x0))=true∧True)∧(decide (512<x0)=false→(! decide (512<x0))=true)∧cond (decide (512<x0)||decide (512<v0)) (Q 513) (v1≠0∧Q (IntKind.wrap .u64 ( IntKind.wrap .u64 (Int.tdiv x0 v1)*v0)))
def BP.wp(x0:List Int)(Q:Int×Int→Prop):Prop:=let v1:=FF.fn (x0,(1,((λ(a4:Int×Int)=>EC.pre (a4.1,(a4.2,())),λ(a4:Int×Int)=>EC.fn (a4.1,(a4.2,()))),())));Lp (σ:=Int) (λy2 R2=>cond (decide (y2<x0.length)) ((0≤y2∧y2<x0.length)∧cond (decide ( x0.getD y2.toNat 0<1)) (Q (0,1)) (AA .i64 (y2+1)∧R2 (y2+1))) (FF.pre (x0,(1,((λ(a4:Int×Int)=>EC.pre (a4.1,(a4.2,())),λ(a4:Int×Int)=>EC.fn (a4.1,(a4.2,()))),())))∧cond (decide (512<v1)) (Q (0,3)) (AA .i64 v1∧Q (v1,0)))) 0
def Dc.wp(x0:List Int)(Q:Int×Int→Prop):Prop:=Lp (σ:=Int) (λy2 R2=>cond (decide (y2<x0.length)) ((0≤y2∧y2<x0.length)∧cond (decide ( x0.getD y2.toNat 0<1)) (Q (0,1)) (AA .i64 (y2+1)∧R2 (y2+1))) (Lp (σ:=Int) (λy4 R4=>cond (decide (y4≤512)) (Lp (σ:=Int×Bool) (λy6 R6=>let v1:=x0.getD y6.1.toNat 0;cond (decide (y6.1<x0.length)) ((0≤y6.1∧y6.1<x0.length)∧(y6.2=true→y6.2=true∧y6.2=true∧v1≠0)∧(y6.2=true→y6.2=true∧True)∧(y6.2=true→y6.2=true)∧AA .i64 (y6.1+1)∧R6 ( y6.1+1,y6.2&&Int.tmod y4 v1==0)) (cond y6.2 (Q (y4,0)) (AA .i64 (y4+1)∧R4 (y4+1)))) (0,true)) (Q (0,3))) 1)) 0
def BV.wp(x0:Int)(Q:Int→Prop):Prop:=AA .i64 (-x0)∧Q (max x0 (-x0))
def Eb.wp(x0:Int)(x1:Int)(Q:AN→Prop):Prop:=(0≤x0∧x0≤x0∧x0*((8:Nat):Int)≤140737488355328∧x0≤9223372036854775807)∧Q (.replicate x0.toNat 0,x1)
def DH.wp(x0:O)(x1:Int)(x2:Int)(x3:Int)(x4:AN)(Q:O→Prop):Prop:=let v0:=x0.2.2.1.getD x1.toNat 0;let v1:=CD.fn (x0.2.2,(x1,()));CD.pre (x0.2.2,(x1,()))∧AA .i64 (x0.2.1*x2)∧(0≤x1∧x1<x0.2.2.1.length)∧AA .i64 (v0*x3)∧BY.pre (x2,(v1,( v0*x3,(x4,()))))∧Q (x0.1,( x0.2.1*x2,BY.fn (x2,(v1,( v0*x3,(x4,()))))))
theorem Bm.spec(a:Int)(l:AN)(b:Int)(m:AN)(hp:Bm.pre (a,l,b,m,())):Bm.wp a l b m λr=>r=Bm.fn (a,l,b,m,()):=BY.spec a l b m hp
theorem DV.spec(l:AN)(k:Int)(hp:DV.pre (l,k,())):DV.wp l k λr=>r=DV.fn (l,k,()):=by obtain⟨⟨h1,h2,h3⟩,h4,h5⟩:=hp;simp only at h1 h2 h3 h4 h5;exact⟨by omega,⟨by omega,by omega⟩,rfl⟩
theorem BV.spec(n:Int)(hp:BV.pre (n,())):BV.wp n λr=>r=BV.fn (n,()):=by obtain⟨h1,h2⟩:=hp;simp only at h1 h2;exact⟨⟨by omega,by omega⟩,rfl⟩
theorem Eb.spec(n k:Int)(hp:Eb.pre (n,k,())):Eb.wp n k λr=>r=Eb.fn (n,k,()):=by obtain⟨h1,h2⟩:=hp;simp only at h1 h2;exact⟨⟨h1,ZH4 _,by omega,by omega⟩,rfl⟩
theorem ZCP(l:List Int):∀m:Nat,l.foldl (λm n=>Nat.lcm m n.natAbs) m=Nat.lcm m (DF l):=by induction l with|nil=>intro m;simp[DF]|cons n l ih=>
 intro m;have h0:DF (n::l)=Nat.lcm n.natAbs (DF l):=by show(n::l).foldl _ 1=_;rw[ZG3,ih,ZKF]
 rw[ZG3,ih,h0,Nat.lcm_assoc]
theorem Ui(n:Int)(l:List Int):DF (n::l)=Nat.lcm n.natAbs (DF l):=by show(n::l).foldl _ 1=_;rw[ZG3,ZCP,ZKF]
theorem Uj{l:List Int}(h:∀n∈l,1≤n):1≤DF l:=by induction l with|nil=>simp[DF]|cons n l ih=>rw[Ui];have h1:=h n (by simp);exact ZLJ (by omega) (ih λm hm=>h m (ZGK _ hm))
theorem Oh{l:List Int}{n:Int}(h:n∈l):n∣(DF l:Int):=by induction l with|nil=>simp at h|cons m l ih=>
 rw[Ui];rcases List.mem_cons.1 h with rfl|h;·exact Int.natAbs_dvd.1 (Int.natCast_dvd_natCast.2 (Nat.dvd_lcm_left _ _))
 ·exact ZIi (ih h) (Int.natCast_dvd_natCast.2 (Nat.dvd_lcm_right _ _))
theorem ZCQ{l:List Int}{m:Nat}(h:∀n∈l,n∣(m:Int)):DF l∣m:=by induction l with|nil=>simp[DF]|cons n l ih=>rw[Ui];exact Nat.lcm_dvd (Int.ofNat_dvd_right.1 (h n (by simp))) (ih λm hm=>h m (ZGK _ hm))
theorem ZR(l:List Int):(DE l).2=1∨(DE l).2=3∨(DE l).2=0∧(∀n∈l,1≤n)∧(DE l).1=(DF l:Int)∧DF l≤512:=by
 unfold DE;split;·exact .inl rfl
 ·rename_i h;split;·exact .inr (.inl rfl)
  ·refine .inr (.inr ⟨rfl,λn hn=>?_,rfl,by omega⟩);simp only[ZH8,ZG0,not_exists,not_and,Int.not_lt]at h;exact h n hn
theorem Vh{n:Nat}(h:n≤9223372036854775807):IntKind.wrap .u64 (n:Int)=(n:Int):=by simp only[IntKind.wrap,IntKind.bits,IntKind.signed];simp;omega
theorem EC.spec(g n:Int)(hp:EC.pre (g,n,())):EC.wp g n λr=>r=EC.fn (g,n,()):=by
 obtain⟨h1,h2⟩:=hp;simp only at h1 h2;have e:IntKind.wrap .u64 n=n:=by have :=Vh (n:=n.toNat) (by omega);rwa[ZHD (by omega)]at this
 simp only[EC.wp,EC.fn,e];by_cases hg:(512:Int)<g;·simp[hg]
 ·simp only[ZGF hg,ZGz,forall_const,ZKn,ZHh];by_cases hn:(512:Int)<n;·simp[hn]
  ·simp only[ZGF hn,ZF9];refine⟨?_,by simp⟩;unfold ED.fn;simp only;rw[ZGA (by omega)];split;·omega
   ·intro h0;have :Nat.gcd g.toNat n.toNat=0:=by omega
    rw[Nat.gcd_eq_zero_iff]at this;omega
def Ma(g n:Int):Int:=EC.fn (g,n,())
theorem ZCS{m:Nat}{g n:Int}(hm:1≤m)(hn:1≤n)(hn2:n≤9223372036854775807)(hg:m≤512∧g=(m:Int)∨512<m∧512<g∧g≤262144):Nat.lcm m n.natAbs≤512∧Ma g n=(Nat.lcm m n.natAbs:Int)∨512<Nat.lcm m n.natAbs∧512<Ma g n∧Ma g n≤262144:=by
 have e:IntKind.wrap .u64 n=n:=by have :=Vh (n:=n.toNat) (by omega);rwa[ZHD (by omega)]at this
 have hna:(n.natAbs:Int)=n:=by omega
 have AU:1≤Nat.lcm m n.natAbs:=ZLJ (by omega) (by omega);have ZFy:m≤Nat.lcm m n.natAbs:=ZKq AU (Nat.dvd_lcm_left _ _);have ZBT:n.natAbs≤Nat.lcm m n.natAbs:=ZKq AU (Nat.dvd_lcm_right _ _);unfold Ma EC.fn;simp only[e];rcases hg with⟨h1,rfl⟩|⟨h1,h2,h3⟩
 ·by_cases hb:(512:Int)<n;·rw[ZGE (by simp[hb])];exact .inr ⟨by omega,by omega,by omega⟩
  ·rw[ZGA (by simp;omega)];have hc:ED.fn ((m:Int),n,())=(Nat.gcd m n.natAbs:Nat):=by unfold ED.fn;simp only;rw[ZGA (by omega),ZGA (by omega)];congr 2;omega
   have hgp:0<Nat.gcd m n.natAbs:=ZKN _ (by omega);have hdiv:Int.tdiv (m:Int) ((Nat.gcd m n.natAbs:Nat):Int)=((m/Nat.gcd m n.natAbs:Nat):Int):=by rw[ZJJ (by omega)];rfl
   have LY:m/Nat.gcd m n.natAbs*n.natAbs=Nat.lcm m n.natAbs:=by rw[Nat.lcm,Nat.div_mul_right_comm (Nat.gcd_dvd_left _ _)]
   have hq:m/Nat.gcd m n.natAbs≤m:=ZKP _ _;have hl:Nat.lcm m n.natAbs≤262144:=by rw[←LY];have :=ZIE (show m/Nat.gcd m n.natAbs≤512 by omega) (show n.natAbs≤512 by omega);omega
   rw[hc,hdiv,Vh (n:=m/Nat.gcd m n.natAbs) (by omega),←hna,show((m/Nat.gcd m (n.natAbs:Int).natAbs:Nat):Int)*((n.natAbs:Nat):Int)=((m/Nat.gcd m n.natAbs*n.natAbs:Nat):Int)from by rw[ZJO];push_cast;rfl,ZJO,LY,Vh (n:=Nat.lcm m n.natAbs) (by omega)];by_cases hs:Nat.lcm m n.natAbs≤512;·exact .inl ⟨hs,rfl⟩
   ·exact .inr ⟨by omega,by omega,by omega⟩
 ·rw[ZGE (by simp;omega)];exact .inr ⟨by omega,by omega,by omega⟩
theorem ZCR{l:List Int}(h:∀n∈l,1≤n∧n≤9223372036854775807):∀{m:Nat}{g:Int},1≤m→m≤512∧g=(m:Int)∨512<m∧512<g∧g≤262144→Nat.lcm m (DF l)≤512∧l.foldl Ma g=(Nat.lcm m (DF l):Int)∨512<Nat.lcm m (DF l)∧512<l.foldl Ma g∧l.foldl Ma g≤262144:=by induction l with|nil=>intro m g hm hg;simpa[DF]using hg|cons n l ih=>intro m g hm hg;have hn:=h n (by simp);rw[ZG3,Ui,←Nat.lcm_assoc];exact ih (λk hk=>h k (ZGK _ hk)) (ZLJ (by omega) (by omega)) (ZCS hm hn.1 hn.2 hg)
theorem BP.spec(l:List Int)(hl:l.length≤9223372036854775807)(hp:BP.pre (l,())):BP.wp l λr=>r=BP.fn (l,()):=by
 have hb:D7 l:=hp;have hfn:BP.fn (l,())=DE l:=rfl;simp only[BP.wp,hfn];have Ka:(l.all λn=>!decide (n<1))=! l.any λn=>decide (n<1):=by simp[ZKI]
 refine Lp.all l 0 (λn=>!decide (n<1)) hl (λi R hi hi' hf h1 h2=>?_) λR hall=>?_;·simp only[ZGB hi',ZGD,ZGC];refine⟨⟨by omega,hi'⟩,?_⟩;cases hd:decide (l.getD i 0<1)with|true=>simp only[ZGC];have :=h2 (by rw[hd];rfl);rw[Ka]at this;unfold DE;rw[ZGE (by simpa using this)]|false=>exact⟨hf,h1 (by rw[hd];rfl)⟩
 ·simp only[ZGH,ZGQ,ZF9];rw[Ka]at hall;have Jw:(l.any λn=>decide (n<1))=false:=by simpa using hall
  have AU:∀n∈l,1≤n:=λn hn=>by rw[ZJ6]at Jw;have :=Jw n hn;simp at this;omega
  have Jz:FF.fn (l,((1:Int),((λ(a4:Int×Int)=>EC.pre (a4.1,a4.2,()),λ(a4:Int×Int)=>EC.fn (a4.1,(a4.2,()))),())))=l.foldl Ma 1:=rfl;refine⟨λg n hn=>⟨AU n hn,(hb n hn).2⟩,?_⟩;rw[Jz];have key:=ZCR (λn hn=>⟨AU n hn,(hb n hn).2⟩) (m:=1) (g:=1) (by omega) (.inl ⟨by omega,rfl⟩);rw[ZKF]at key;have hF:DE l=if 512<DF l then((0:Int),(3:Int))else(((DF l:Nat):Int),0):=by unfold DE;rw[ZGA (by rw[Jw];simp)]
  rw[hF];rcases key with⟨h1,h2⟩|⟨h1,h2,h3⟩;·rw[h2,ZGF (by omega),ZGA (by omega)];exact⟨⟨by omega,by omega⟩,rfl⟩
  ·rw[ZGB h2,ZGE h1];rfl
theorem Dc.spec(l:List Int)(hl:l.length≤9223372036854775807)(hp:Dc.pre (l,())):Dc.wp l λr=>r=Dc.fn (l,()):=by
 have hfn:Dc.fn (l,())=DE l:=rfl;simp only[Dc.wp,hfn];have Ka:(l.all λn=>!decide (n<1))=! l.any λn=>decide (n<1):=by simp[ZKI]
 refine Lp.all l 0 (λn=>!decide (n<1)) hl (λi R hi hi' hf h1 h2=>?_) λR hall=>?_;·simp only[ZGB hi',ZGD,ZGC];refine⟨⟨by omega,hi'⟩,?_⟩;cases hd:decide (l.getD i 0<1)with|true=>simp only[ZGC];have :=h2 (by rw[hd];rfl);rw[Ka]at this;unfold DE;rw[ZGE (by simpa using this)]|false=>exact⟨hf,h1 (by rw[hd];rfl)⟩
 ·simp only[ZGH,ZGQ,ZF9];rw[Ka]at hall;have Jw:(l.any λn=>decide (n<1))=false:=by simpa using hall
  have AU:∀n∈l,1≤n:=λn hn=>by rw[ZJ6]at Jw;have :=Jw n hn;simp at this;omega
  have hF:DE l=if 512<DF l then((0:Int),(3:Int))else(((DF l:Nat):Int),0):=by unfold DE;rw[ZGA (by rw[Jw];simp)]
  rw[hF];have hLp:=Uj AU;have RM:∀m:Nat,1≤m→m<DF l→l.all λn=>Int.tmod (m:Int) n==0=false:=λm hm Ab=>by cases e:l.all λn=>Int.tmod (m:Int) n==0 with|false=>rfl|true=>rw[ZHi]at e;have :=ZKq hm (ZCQ λn hn=>Int.dvd_of_tmod_eq_zero (by simpa using e n hn));omega
  obtain⟨N,hN⟩:∃N:Nat,N=513:=⟨_,rfl⟩;refine Lp.iter N (λk(y:Int)=>y=(k:Int)+1∧k<DF l) ⟨rfl,by omega⟩ ?_;intro k y hk hI R1 hR;have hy:y=(k:Int)+1:=hI.1;have T7:k<DF l:=hI.2;clear hI;by_cases ZFb:k+1≤512
  ·simp only[hy,ZGB (show(k:Int)+1≤512 by omega),ZGC];refine Lp.iter l.length (λi(z:Int×Bool)=>z=((i:Int),(l.take i).all λn=>Int.tmod ((k:Int)+1) n==0)) (by simp) ?_;rintro i z hi rfl R2 BJ;by_cases MN:i<l.length
   ·have hi':(i:Int)<(l.length:Int):=by omega
    have hd:l.getD i 0≠0:=by have :=AU _ (AV (d:=0) MN);omega
    simp only[ZGB hi',ZGD,ZGC];refine⟨⟨by omega,hi'⟩,λh=>⟨h,h,hd⟩,λh=>⟨h,trivial⟩,λh=>h,⟨by omega,by omega⟩,BJ MN _ ?_⟩;have ht:l.take (i+1)=l.take i++[l.getD i 0]:=by rw[ZI7,ZGU MN,A6 MN];rfl
    rw[ht,ZIR];simp
   ·have :i=l.length:=by omega
    subst this;simp only[ZGH,ZGQ,ZF9,ZGN];cases e:l.all λn=>Int.tmod ((k:Int)+1) n==0 with
    |true=>
     simp only[ZGC];have :¬k+1<DF l:=λAb=>by have :=RM (k+1) (by omega) Ab;rw[show((k+1:Nat):Int)=(k:Int)+1 from rfl,e]at this;cases this
     rw[ZGA (by omega)];have :DF l=k+1:=by omega
     rw[this];rfl|false=>
     simp only[ZF9];refine⟨⟨by omega,by omega⟩,hR (by omega) _ ⟨by push_cast;omega,?_⟩⟩;apply ZHW;intro FW;have hk1:DF l=k+1:=by omega
     rw[ZI6]at e;obtain⟨n,hn,hne⟩:=e;have :=Oh hn;rw[hk1]at this;apply hne;simp only[ZIF];exact ZKH this
  ·simp only[hy,ZGF (show¬(k:Int)+1≤512 by omega),ZF9];rw[ZGE (by omega)]
def Eu.wp(x0:List O)(x1:Int)(Q:Int→Prop):Prop:=Lp (σ:=Int×Int×Int) (λy3 R3=>let v0:=x0.getD y3.1.toNat U;cond (decide (y3.1<x0.length)) ((0≤y3.1∧y3.1<x0.length)∧cond (v0.1 !=1) (AA .i64 (y3.1+1)∧R3 ( y3.1+1,y3.2)) (Lp (σ:=Int×Int×Int) (λy5 R5=>let v1:=v0.2.2.1.getD y5.1.toNat 0;cond (decide (y5.1<v0.2.2.1.length)) ((0≤y5.1∧y5.1<v0.2.2.1.length)∧cond (v1 !=0) (BV.pre (v1,())∧cond (BV.fn (v1,())==1) (AA .i64 (y5.1+1)∧R5 ( y5.1+1,(max y5.2.1 y5.1,max y5.2.2 y5.1))) (AA .i64 (y5.1+1)∧R5 ( y5.1+1,(y5.2.1,max y5.2.2 y5.1)))) (BV.pre (v1,())∧cond (BV.fn (v1,())==1) (AA .i64 (y5.1+1)∧R5 ( y5.1+1,(max y5.2.1 y5.1,y5.2.2))) (AA .i64 (y5.1+1)∧R5 ( y5.1+1,y5.2)))) (AA .i64 (y3.1+1)∧R3 ( y3.1+1,y5.2))) (0,y3.2))) (cond (decide (0≤y3.2.1)) (Q y3.2.1) (cond (decide (0≤y3.2.2)) (Q y3.2.2) (Lp (σ:=Int×Int×Int) (λy5 R5=>cond (decide (y5.1<x1)) (Lp (σ:=Int×Int×Int) (λy7 R7=>let v2:=x0.getD y7.1.toNat U;let v3:=v2.2.2.1.getD y5.1.toNat 0;cond (decide (y7.1<x0.length)) ((0≤y7.1∧y7.1<x0.length)∧( ! v2.1 !=0=true→! v2.1 !=0=true∧True)∧((! v2.1 !=0)=true→! v2.1 !=0=true∧True)∧((! v2.1 !=0)=true→(! v2.1 !=0)=true∧! v2.1 !=0=true∧0≤y5.1∧y5.1<v2.2.2.1.length)∧((! v2.1 !=0)=true→(! v2.1 !=0)=true∧True)∧( ! v2.1 !=0=true→(! v2.1 !=0)=true∧True)∧((v2.1 !=0)=false→(! v2.1 !=0)=true)∧cond ( v2.1 !=0||v3==0) (AA .i64 (y7.1+1)∧R7 ( y7.1+1,y7.2)) ((0≤y5.1∧y5.1<v2.2.2.1.length)∧cond (decide (0<v3)) (AA .i64 (y7.2.1+1)∧AA .i64 (y7.1+1)∧R7 ( y7.1+1,( y7.2.1+1,y7.2.2))) (AA .i64 (y7.2.2+1)∧AA .i64 (y7.1+1)∧R7 ( y7.1+1,(y7.2.1,y7.2.2+1))))) (((! decide (y5.2.1<0))=true→(! decide (y5.2.1<0))=true∧(! decide (y5.2.1<0))=true∧AA .i64 (y7.2.1*y7.2.2))∧((! decide (y5.2.1<0))=true→(! decide (y5.2.1<0))=true∧(! decide (y5.2.1<0))=true∧True)∧(decide (y5.2.1<0)=false→(! decide (y5.2.1<0))=true)∧cond (decide (y5.2.1<0)||decide ( y7.2.1*y7.2.2≤y5.2.1)) (AA .i64 (y7.2.1*y7.2.2)∧AA .i64 (y5.1+1)∧R5 ( y5.1+1,( y7.2.1*y7.2.2,y5.1))) (AA .i64 (y5.1+1)∧R5 ( y5.1+1,y5.2)))) (0,(0,0))) (Q y5.2.2)) (0,(-1,0)))))) (0,(-1,-1))
theorem Zg{n j:Nat}{f:Nat→Int}(h:j<n):((List.range n).map f).getD j 0=f j:=by rw[ZGG,ZHO,ZIY h];rfl
theorem pK{n j:Nat}{f g:Nat→Int}(h:∀i,i≠j→f i=g i):((List.range n).map f).set j (g j)=(List.range n).map g:=by
 apply ZHR (by simp);intro i h1 h2;simp only[List.getElem_set,ZH9,ZHz];split;·rename_i e;rw[e]
 ·rename_i e;exact h i λe'=>e e'.symm
theorem Zf{n:Nat}{f g:Nat→Int}(h:∀i,i<n→f i=g i):(List.range n).map f=(List.range n).map g:=by apply ZHA;intro i hi;exact h i (List.mem_range.1 hi)
theorem SZ{α:Type}(d:α)(l:List α):(BU d l).length=l.length:=by simp[BU]
theorem cK{α:Type}(d:α)(l:List α){i:Nat}(h:i<l.length):(BU d l).take (i+1)=(BU d l).take i++[(i,l.getD i d)]:=by
 have h':i<(BU d l).length:=by rw[SZ];exact h
 rw[ZI7,ZGU h'];simp[BU]
theorem H7{α:Type}{l:List α}{d:α}{i:Nat}(h:i<l.length):l.take (i+1)=l.take i++[l.getD i d]:=by rw[ZI7,ZGU h,A6 h];rfl
def Dg(st:Int×Int)(ia:Nat×Int):Int×Int:=if ia.2=0 then st else(if ia.2=1∨ia.2=-1 then max st.1 (ia.1:Int)else st.1,max st.2 (ia.1:Int))
theorem iG(l:List Int)(st:Int×Int):NJ l st=(BU 0 l).foldl Dg st:=rfl
def GB(st:Int×Int)(c:O):Int×Int:=if c.1=1 then NJ c.2.2.1 st else st
theorem XH(p:List O):Ir p=p.foldl GB (-1,-1):=rfl
theorem pF(p:List O)(c:O)(v:Nat):Ep (p++[c]) v=Ep p v+if c.1=0∧0<Z v c then 1 else 0:=by
 unfold Ep;rw[ZG9,ZGI];congr 1;by_cases h:c.1=0∧0<Z v c;·simp[h]
 ·rw[ZGA h];simp[h]
theorem uD(p:List O)(c:O)(v:Nat):Ez (p++[c]) v=Ez p v+if c.1=0∧Z v c<0 then 1 else 0:=by
 unfold Ez;rw[ZG9,ZGI];congr 1;by_cases h:c.1=0∧Z v c<0;·simp[h]
 ·rw[ZGA h];simp[h]
theorem Uo(p:List O)(v:Nat):Ep p v≤p.length:=ZGf _ _
theorem Vi(p:List O)(v:Nat):Ez p v≤p.length:=ZGf _ _
theorem pG(p:List O)(i v:Nat):Ep (p.take i) v≤p.length:=ZGd (Uo _ _) (by rw[ZGP];omega)
theorem uE(p:List O)(i v:Nat):Ez (p.take i) v≤p.length:=ZGd (Vi _ _) (by rw[ZGP];omega)
def KR(p:List O)(b v:Nat):Nat:=if Ho p v≤Ho p b then v else b
theorem xL(p:List O)(n:Nat):E6 p n=(List.range n).foldl (KR p) 0:=rfl
theorem Sx(p:List O)(n:Nat):E6 p (n+1)=KR p (E6 p n) n:=by rw[xL,ZIT,ZHC];rfl
theorem WL(p:List O):∀n:Nat,0<n→E6 p n<n|0,h=>absurd h (by omega)|1,_=>by rw[Sx];have :E6 p 0=0:=rfl;rw[this];unfold KR;split<;>omega|n+2,_=>by rw[Sx];have :=WL p (n+1) (by omega);unfold KR;split<;>omega
theorem Wa{a b:Nat}(ha:a≤400)(hb:b≤400):AA .i64 ((a:Int)*(b:Int)):=by
 have h:=ZIE ha hb;have e:(a:Int)*(b:Int)=((a*b:Nat):Int):=by push_cast;rfl
 rw[e];exact⟨by omega,by omega⟩
theorem ZAY{N:Nat}{st:Int×Int}{ia:Nat×Int}(h:-1≤st.1∧st.1<N∧-1≤st.2∧st.2<N)(hi:ia.1<N):-1≤(Dg st ia).1∧(Dg st ia).1<N∧-1≤(Dg st ia).2∧(Dg st ia).2<N:=by
 unfold Dg;split;·exact h
 ·refine⟨?_,?_,?_,?_⟩<;>simp only[]<;>(try split)<;>omega
theorem ZAV{N:Nat}{l:List Int}{st:Int×Int}(h:-1≤st.1∧st.1<N∧-1≤st.2∧st.2<N)(hl:l.length≤N):-1≤(NJ l st).1∧(NJ l st).1<N∧-1≤(NJ l st).2∧(NJ l st).2<N:=by
 rw[iG];have key:∀(m:List (Nat×Int))(st:Int×Int),(∀x∈m,x.1<N)→-1≤st.1∧st.1<N∧-1≤st.2∧st.2<N→-1≤(m.foldl Dg st).1∧(m.foldl Dg st).1<N∧-1≤(m.foldl Dg st).2∧(m.foldl Dg st).2<N:=by intro m;induction m with|nil=>exact λst _ h=>h|cons x m ih=>exact λst hm h=>ih _ (λy hy=>hm y (ZGK _ hy)) (ZAY h (hm x (by simp)))
 refine key _ st (λx hx=>?_) h;simp only[BU,ZGt,ZH5]at hx;obtain⟨i,hi,rfl⟩:=hx;simp only;omega
theorem ZAZ{p:List O}{N:Nat}(h:∀c∈p,c.2.2.1.length≤N):-1≤(Ir p).1∧(Ir p).1<N∧-1≤(Ir p).2∧(Ir p).2<N:=by
 rw[XH];have key:∀(m:List O)(st:Int×Int),(∀c∈m,c.2.2.1.length≤N)→-1≤st.1∧st.1<N∧-1≤st.2∧st.2<N→-1≤(m.foldl GB st).1∧(m.foldl GB st).1<N∧-1≤(m.foldl GB st).2∧(m.foldl GB st).2<N:=by intro m;induction m with|nil=>exact λst _ h=>h|cons x m ih=>
  refine λst hm h=>ih _ (λy hy=>hm y (ZGK _ hy)) ?_;unfold GB;split;·exact ZAV h (hm x (by simp))
  ·exact h
 exact key p _ h ⟨by omega,by simp only;omega,by omega,by simp only;omega⟩
theorem S9{p:List O}{n:Int}(h:pieceN p n)(h1:1≤n):0≤Cf p n∧Cf p n<n:=by
 obtain⟨_,hc,h0,C1⟩:=h;have hb:=ZAZ (p:=p) (N:=n.toNat) λc hc'=>by have :=(hc c hc').2;omega
 have ZFg:=WL p n.toNat (by omega);unfold Cf;split;·omega
 ·split;·omega
  ·omega
theorem Eg.spec(p:List O)(n:Int)(hp:Eg.pre (p,n,())):Eg.wp p n λr=>r=Eg.fn (p,n,()):=by
 obtain⟨EH,hc,h0,C1⟩:=hp;simp only at EH hc h0 C1;have hfn:Eg.fn (p,n,())=Cf p n:=rfl;simp only[Eg.wp,hfn];obtain⟨N,rfl⟩:∃N:Nat,n=(N:Int):=⟨n.toNat,by omega⟩;simp only[ZGD];refine⟨⟨h0,ZH4 _,by omega,by omega⟩,⟨h0,ZH4 _,by omega,by omega⟩,?_⟩;have IQ:List.replicate N (0:Int)=(List.range N).map λv=>(Ep (p.take 0) v:Int):=by apply ZHR (by simp);intro i h1 h2;simp[Ep]
 have ZBo:List.replicate N (0:Int)=(List.range N).map λv=>(Ez (p.take 0) v:Int):=by apply ZHR (by simp);intro i h1 h2;simp[Ez]
 refine Lp.iter p.length (λi z=>z=((i:Int),((p.take i).foldl GB (-1,-1)).1,((p.take i).foldl GB (-1,-1)).2,(List.range N).map λv=>(Ep (p.take i) v:Int),(List.range N).map λv=>(Ez (p.take i) v:Int))) (by rw[←IQ,←ZBo];rfl) ?_;rintro i z hle rfl R hR;by_cases e:i<p.length
 ·have e':(i:Int)<(p.length:Int):=by omega
  simp only[ZGB e',ZGD,ZGC];refine⟨⟨by omega,e'⟩,?_⟩;have A4:=AV (d:=U) e;obtain⟨c,Gn⟩:∃c,p.getD i U=c:=⟨_,rfl⟩;simp only[Gn]at A4⊢;obtain⟨JQ,hcl⟩:=hc c A4;have hcN:c.2.2.1.length=N:=by omega
  obtain⟨st,BO⟩:∃st,(p.take i).foldl GB (-1,-1)=st:=⟨_,rfl⟩;simp only[BO];have DD:(p.take (i+1)).foldl GB (-1,-1)=GB st c:=by rw[H7 (d:=U) e,ZHC,BO,Gn];rfl
  have EK:∀v,Ep (p.take (i+1)) v=Ep (p.take i) v+if c.1=0∧0<Z v c then 1 else 0:=λv=>by rw[H7 (d:=U) e,pF,Gn]
  have PW:∀v,Ez (p.take (i+1)) v=Ez (p.take i) v+if c.1=0∧Z v c<0 then 1 else 0:=λv=>by rw[H7 (d:=U) e,uD,Gn]
  refine Lp.iter c.2.2.1.length (λj z=>z=((j:Int),(if c.1=1 then((BU 0 c.2.2.1).take j).foldl Dg st else st).1,(if c.1=1 then((BU 0 c.2.2.1).take j).foldl Dg st else st).2,(List.range N).map λv=>(Ep (p.take i) v:Int)+if v<j∧c.1=0∧0<Z v c then 1 else 0,(List.range N).map λv=>(Ez (p.take i) v:Int)+if v<j∧c.1=0∧Z v c<0 then 1 else 0)) (by simp) ?_;rintro j z hj rfl R1 BC;by_cases ej:j<c.2.2.1.length
  ·have ej':(j:Int)<(c.2.2.1.length:Int):=by omega
   have Q2:j<N:=by omega
   have D4:c.2.2.1.getD j 0=Z j c:=rfl;have Y0:((BU 0 c.2.2.1).take (j+1)).foldl Dg st=Dg (((BU 0 c.2.2.1).take j).foldl Dg st) (j,Z j c):=by rw[cK 0 _ ej,ZHC];rfl
   have A7:=BC ej _ rfl;simp only[Y0]at A7;simp only[ZGB ej',ZGD,ZGC,D4];refine⟨⟨by omega,ej'⟩,?_⟩;have II:AA IntKind.i64 ((j:Int)+1):=⟨by omega,by omega⟩;have Km:∀(f:Nat→Int)(g:Nat→Prop)[DecidablePred g],(∀v,v=j→¬g v)→((List.range N).map λv=>f v+if v<j+1∧g v then 1 else 0)=(List.range N).map λv=>f v+if v<j∧g v then(1:Int)else 0:=λf g _ hg=>by
    apply Zf;intro v hv;congr 1;by_cases hvj:v=j;·have :=hg v hvj;rw[ZGA λh=>this h.2,ZGA λh=>this h.2]
    ·by_cases hg':g v
     ·by_cases Ab:v<j;·rw[ZGE ⟨by omega,hg'⟩,ZGE ⟨Ab,hg'⟩]
      ·rw[ZGA (by omega),ZGA (by omega)]
     ·rw[ZGA λh=>hg' h.2,ZGA λh=>hg' h.2]
   by_cases ha:Z j c=0
   ·rw[ha];refine⟨II,?_⟩;have hx:Dg (((BU 0 c.2.2.1).take j).foldl Dg st) (j,Z j c)=((BU 0 c.2.2.1).take j).foldl Dg st:=by unfold Dg;rw[ZGE ha]
    rw[hx,Km _ (λv=>c.1=0∧0<Z v c) λv hv h=>by subst hv;omega,Km _ (λv=>c.1=0∧Z v c<0) λv hv h=>by subst hv;omega]at A7;exact A7
   ·have ha':(Z j c==0)=false:=by simpa using ha
    rw[ha',ZF9];by_cases h1:c.1=1
    ·have h1':(c.1==1)=true:=by simpa using h1
     rw[h1',ZGC];rw[Km _ (λv=>c.1=0∧0<Z v c) λv hv h=>by omega,Km _ (λv=>c.1=0∧Z v c<0) λv hv h=>by omega]at A7;simp only[ZGE h1]at A7⊢;unfold Dg at A7;rw[ZGA ha]at A7;refine⟨λh=>⟨h,trivial⟩,λh=>by rw[h];rfl,?_⟩;by_cases hu:Z j c=1∨Z j c=-1;·rw[show( Z j c==1||Z j c==-(1:Int))=true by simpa using hu,ZGC];simp only[ZGE hu]at A7;exact⟨II,A7⟩
     ·rw[show( Z j c==1||Z j c==-(1:Int))=false by simpa using hu,ZF9];simp only[ZGA hu]at A7;exact⟨II,A7⟩
    ·have h1':(c.1==1)=false:=by simpa using h1
     rw[h1',ZF9];simp only[ZGA h1]at A7⊢;refine⟨λh=>⟨h,trivial⟩,λh=>h,?_⟩;simp only[ZGM,ZG4,Zg Q2];have ZBW:(if j<j∧c.1=0∧0<Z j c then(1:Int)else 0)=0:=ZGA (by omega);have ZBX:(if j<j∧c.1=0∧Z j c<0 then(1:Int)else 0)=0:=ZGA (by omega);have T9:=pG p i j;have UT:=uE p i j;by_cases h0':c.1=0
     ·have ME:(c.1==0)=true:=by simpa using h0'
      by_cases AU:0<Z j c
      ·rw[ME,ZGB AU,Bool.and_self,ZGC];refine⟨⟨by omega,by omega⟩,Q2,⟨by omega,by omega⟩,⟨by omega,by omega⟩,Q2,II,?_⟩;rw[Km _ (λv=>c.1=0∧Z v c<0) λv hv h=>by subst hv;omega]at A7;rw[ZBW,ZH3];have Gw:=pK (n:=N) (j:=j) (f:=λv=>(Ep (p.take i) v:Int)+if v<j∧c.1=0∧0<Z v c then 1 else 0) (g:=λv=>(Ep (p.take i) v:Int)+if v<j+1∧c.1=0∧0<Z v c then 1 else 0) λv hv=>by
        congr 1;by_cases Ab:v<j
        ·by_cases hx:c.1=0∧0<Z v c;·rw[ZGE ⟨Ab,hx⟩,ZGE ⟨by omega,hx⟩]
         ·rw[ZGA λh=>hx h.2,ZGA λh=>hx h.2]
        ·rw[ZGA (by omega),ZGA (by omega)]
       simp only[ZGE (show j<j+1∧c.1=0∧0<Z j c from⟨by omega,h0',AU⟩)]at Gw;rw[Gw];exact A7
      ·rw[ME,ZGF AU,ZJA,ZF9,ZGC];refine⟨⟨by omega,by omega⟩,Q2,⟨by omega,by omega⟩,⟨by omega,by omega⟩,Q2,II,?_⟩;rw[Km _ (λv=>c.1=0∧0<Z v c) λv hv h=>by subst hv;omega]at A7;rw[ZBX,ZH3];have Cj:Z j c<0:=by omega
       have Gw:=pK (n:=N) (j:=j) (f:=λv=>(Ez (p.take i) v:Int)+if v<j∧c.1=0∧Z v c<0 then 1 else 0) (g:=λv=>(Ez (p.take i) v:Int)+if v<j+1∧c.1=0∧Z v c<0 then 1 else 0) λv hv=>by
        congr 1;by_cases Ab:v<j
        ·by_cases hx:c.1=0∧Z v c<0;·rw[ZGE ⟨Ab,hx⟩,ZGE ⟨by omega,hx⟩]
         ·rw[ZGA λh=>hx h.2,ZGA λh=>hx h.2]
        ·rw[ZGA (by omega),ZGA (by omega)]
       simp only[ZGE (show j<j+1∧c.1=0∧Z j c<0 from⟨by omega,h0',Cj⟩)]at Gw;rw[Gw];exact A7
     ·have ME:(c.1==0)=false:=by simpa using h0'
      rw[ME,ZJB,ZF9,ZF9];rw[Km _ (λv=>c.1=0∧0<Z v c) λv hv h=>h0' h.1,Km _ (λv=>c.1=0∧Z v c<0) λv hv h=>h0' h.1]at A7;exact⟨II,A7⟩
  ·have :j=c.2.2.1.length:=by omega
   subst this;simp only[ZGH,ZGQ,ZF9];refine⟨⟨by omega,by omega⟩,hR e _ ?_⟩;rw[DD];have ht:(BU 0 c.2.2.1).take c.2.2.1.length=BU 0 c.2.2.1:=by rw[←SZ 0,ZGN]
   have hE:(if c.1=1 then((BU 0 c.2.2.1).take c.2.2.1.length).foldl Dg st else st)=GB st c:=by rw[ht];rfl
   rw[hE];congr 4
   ·apply Zf;intro v hv;rw[EK v];by_cases hx:c.1=0∧0<Z v c;·rw[ZGE ⟨by omega,hx⟩,ZGE hx];push_cast;rfl
    ·rw[ZGA λh=>hx h.2,ZGA hx];push_cast;rfl
   ·apply Zf;intro v hv;rw[PW v];by_cases hx:c.1=0∧Z v c<0;·rw[ZGE ⟨by omega,hx⟩,ZGE hx];push_cast;rfl
    ·rw[ZGA λh=>hx h.2,ZGA hx];push_cast;rfl
 ·have :i=p.length:=by omega
  subst this;simp only[ZGH,ZGQ,ZF9,ZGN];rw[←XH];unfold Cf;by_cases hu:0≤(Ir p).1;·rw[ZGB hu,ZGC,ZGE hu]
  ·rw[ZGF hu,ZF9,ZGA hu];by_cases Lg:0≤(Ir p).2;·rw[ZGB Lg,ZGC,ZGE Lg]
   ·rw[ZGF Lg,ZF9,ZGA Lg];simp only[ZGD,ZGM,ZG4];refine Lp.iter N (λv z=>z=((v:Int),(E6 p v:Int))) rfl ?_;rintro v z hv rfl R1 BC;by_cases ev:v<N
    ·have hb:E6 p v<N:=by
      by_cases h:v=0;·subst h;have :E6 p 0=0:=rfl;omega
      ·have :=WL p v (by omega);omega
     simp only[ZGB (show(v:Int)<(N:Int)by omega),ZGD,ZGC,Zg ev,Zg hb];have a1:=Uo p v;have a2:=Vi p v;have a3:=Uo p (E6 p v);have a4:=Vi p (E6 p v);have A7:=BC ev _ rfl;rw[Sx]at A7;refine⟨⟨by omega,by omega⟩,ev,⟨by omega,by omega⟩,ev,Wa (by omega) (by omega),⟨by omega,by omega⟩,hb,⟨by omega,by omega⟩,hb,Wa (by omega) (by omega),?_⟩;have NV:(Ep p v:Int)*(Ez p v:Int)≤(Ep p (E6 p v):Int)*(Ez p (E6 p v):Int)↔Ho p v≤Ho p (E6 p v):=by unfold Ho;rw[←Int.ofNat_le];push_cast;exact ZJC
     by_cases hle:Ho p v≤Ho p (E6 p v);·rw[ZGB (NV.2 hle),ZGC];unfold KR at A7;rw[ZGE hle]at A7;exact⟨⟨by omega,by omega⟩,A7⟩
     ·rw[ZGF λh=>hle (NV.1 h),ZF9];unfold KR at A7;rw[ZGA hle]at A7;exact⟨⟨by omega,by omega⟩,A7⟩
    ·have :v=N:=by omega
     subst this;simp only[ZGH,ZGQ,ZF9]
theorem E7{c:O}(h:AG c=true)(v:Nat):-1048576≤Z v c∧Z v c≤1048576:=Xa (P:=λn=>-1048576≤n∧n≤1048576) (Bo.b (AG.lin h)).2.1 (by omega)
theorem dH{n:Int}:AR n=1↔n=1∨n=-1:=by unfold AR;omega
theorem wG{n:Int}:AR n=0↔n=0:=by unfold AR;omega
theorem Eu.spec(p:List O)(n:Int)(hp:Eu.pre (p,n,())):Eu.wp p n λr=>r=Eu.fn (p,n,()):=by
 obtain⟨EH,hc,h0,C1⟩:=hp;simp only at EH hc h0 C1;have hfn:Eu.fn (p,n,())=Cf p n:=rfl;simp only[Eu.wp,hfn,BV.fn];obtain⟨N,rfl⟩:∃N:Nat,n=(N:Int):=⟨n.toNat,by omega⟩;refine Lp.iter p.length (λi z=>z=((i:Int),(p.take i).foldl GB (-1,-1))) rfl ?_;rintro i z hle rfl R hR;by_cases e:i<p.length
 ·have e':(i:Int)<(p.length:Int):=by omega
  simp only[ZGB e',ZGD,ZGC];refine⟨⟨by omega,e'⟩,?_⟩;have A4:=AV (d:=U) e;obtain⟨c,Gn⟩:∃c,p.getD i U=c:=⟨_,rfl⟩;simp only[Gn]at A4⊢;obtain⟨JQ,hcl⟩:=hc c A4;have hcN:c.2.2.1.length=N:=by omega
  have DD:(p.take (i+1)).foldl GB (-1,-1)=GB ((p.take i).foldl GB (-1,-1)) c:=by rw[H7 (d:=U) e,ZHC,Gn];rfl
  have hR':=hR e _ rfl;rw[DD]at hR';obtain⟨st,BO⟩:∃st,(p.take i).foldl GB (-1,-1)=st:=⟨_,rfl⟩;simp only[BO]at hR'⊢;unfold GB at hR';by_cases h1:c.1=1
  ·have Qk:(c.1 !=1)=false:=by simpa using h1
   rw[Qk,ZF9];rw[ZGE h1]at hR';refine Lp.iter c.2.2.1.length (λj z=>z=((j:Int),((BU 0 c.2.2.1).take j).foldl Dg st)) rfl ?_;rintro j z hj rfl R1 BC;by_cases ej:j<c.2.2.1.length
   ·have ej':(j:Int)<(c.2.2.1.length:Int):=by omega
    have Y0:((BU 0 c.2.2.1).take (j+1)).foldl Dg st=Dg (((BU 0 c.2.2.1).take j).foldl Dg st) (j,Z j c):=by rw[cK 0 _ ej,ZHC];rfl
    have A7:=BC ej _ rfl;rw[Y0]at A7;have D4:c.2.2.1.getD j 0=Z j c:=rfl;simp only[ZGB ej',ZGD,ZGC,D4];refine⟨⟨by omega,ej'⟩,?_⟩;have II:AA IntKind.i64 ((j:Int)+1):=⟨by omega,by omega⟩;have JP:=E7 JQ j;have Am:BV.pre (Z j c,()):=⟨by show-2305843009213693952≤Z j c;omega,by show Z j c≤2305843009213693952;omega⟩;obtain⟨s2,En⟩:∃s2,((BU 0 c.2.2.1).take j).foldl Dg st=s2:=⟨_,rfl⟩;simp only[En]at A7⊢;unfold Dg at A7;by_cases ha:Z j c=0;·rw[ZGE ha]at A7;rw[ha]at Am⊢;exact⟨Am,II,A7⟩
    ·rw[ZGA ha]at A7;rw[show(Z j c !=0)=true by simpa using ha,ZGC];refine⟨Am,?_⟩;by_cases hu:Z j c=1∨Z j c=-1;·rw[show(AR (Z j c)==1)=true by simpa using dH.2 hu,ZGC];simp only[ZGE hu]at A7;exact⟨II,A7⟩
     ·rw[show(AR (Z j c)==1)=false by simpa using λh=>hu (dH.1 h),ZF9];simp only[ZGA hu]at A7;exact⟨II,A7⟩
   ·have :j=c.2.2.1.length:=by omega
    subst this;simp only[ZGH,ZGQ,ZF9];have ht:(BU 0 c.2.2.1).take c.2.2.1.length=BU 0 c.2.2.1:=by rw[←SZ 0,ZGN]
    rw[ht,←iG];exact⟨⟨by omega,by omega⟩,hR'⟩
  ·have Qk:(c.1 !=1)=true:=by simpa using h1
   rw[Qk,ZGC];rw[ZGA h1]at hR';exact⟨⟨by omega,by omega⟩,hR'⟩
 ·have :i=p.length:=by omega
  subst this;simp only[ZGH,ZGQ,ZF9,ZGN];rw[←XH];unfold Cf;by_cases hu:0≤(Ir p).1;·rw[ZGB hu,ZGC,ZGE hu]
  ·rw[ZGF hu,ZF9,ZGA hu];by_cases Lg:0≤(Ir p).2;·rw[ZGB Lg,ZGC,ZGE Lg]
   ·rw[ZGF Lg,ZF9,ZGA Lg];simp only[ZGD];refine Lp.iter N (λv z=>z=((v:Int),if v=0 then(-1:Int)else(Ho p (E6 p v):Int),(E6 p v:Int))) rfl ?_;rintro v z hv rfl R1 BC;by_cases ev:v<N
    ·simp only[ZGB (show(v:Int)<(N:Int)by omega),ZGC];refine Lp.iter p.length (λi z=>z=((i:Int),(Ep (p.take i) v:Int),(Ez (p.take i) v:Int))) (by simp[Ep,Ez]) ?_;rintro i z hi rfl R2 BJ;by_cases e:i<p.length
     ·have e':(i:Int)<(p.length:Int):=by omega
      simp only[ZGB e',ZGD,ZGC];refine⟨⟨by omega,e'⟩,?_⟩;have A4:=AV (d:=U) e;obtain⟨c,Gn⟩:∃c,p.getD i U=c:=⟨_,rfl⟩;simp only[Gn]at A4⊢;obtain⟨JQ,hcl⟩:=hc c A4;have EK:Ep (p.take (i+1)) v=Ep (p.take i) v+if c.1=0∧0<Z v c then 1 else 0:=by rw[H7 (d:=U) e,pF,Gn]
      have PW:Ez (p.take (i+1)) v=Ez (p.take i) v+if c.1=0∧Z v c<0 then 1 else 0:=by rw[H7 (d:=U) e,uD,Gn]
      have D4:c.2.2.1.getD v 0=Z v c:=rfl;have DX:=BJ e _ rfl;rw[EK,PW]at DX;have T9:=pG p i v;have UT:=uE p i v;have hlen:(v:Int)<(c.2.2.1.length:Int):=by omega
      have Ci:AA IntKind.i64 ((i:Int)+1):=⟨by omega,by omega⟩;simp only[D4];refine⟨λh=>⟨h,trivial⟩,λh=>⟨h,trivial⟩,λh=>⟨h,h,by omega,hlen⟩,λh=>⟨h,trivial⟩,λh=>⟨h,trivial⟩,λh=>by rw[h];rfl,?_⟩;by_cases h0':c.1=0
      ·have ME:(c.1 !=0)=false:=by simpa using h0'
       rw[ME,ZHh];by_cases ha:Z v c=0;·rw[show(Z v c==0)=true by simpa using ha,ZGC];rw[ZGA (by omega),ZGA (by omega)]at DX;exact⟨Ci,DX⟩
       ·rw[show(Z v c==0)=false by simpa using ha,ZF9];refine⟨⟨by omega,hlen⟩,?_⟩;by_cases AU:0<Z v c;·rw[ZGB AU,ZGC];rw[ZGE ⟨h0',AU⟩,ZGA (by omega)]at DX;exact⟨⟨by omega,by omega⟩,Ci,by simpa using DX⟩
        ·rw[ZGF AU,ZF9];rw[ZGA (by omega),ZGE ⟨h0',by omega⟩]at DX;exact⟨⟨by omega,by omega⟩,Ci,by simpa using DX⟩
      ·have ME:(c.1 !=0)=true:=by simpa using h0'
       rw[ME,ZHp,ZGC];rw[ZGA λh=>h0' h.1,ZGA λh=>h0' h.1]at DX;exact⟨Ci,DX⟩
     ·have :i=p.length:=by omega
      subst this;simp only[ZGH,ZGQ,ZF9,ZGN];have a1:=Uo p v;have a2:=Vi p v;have JP:=Wa (a:=Ep p v) (b:=Ez p v) (by omega) (by omega);have A7:=BC ev _ rfl;rw[Sx]at A7;simp only[ZGA (show¬v+1=0 by omega)]at A7;refine⟨λh=>⟨h,h,JP⟩,λh=>⟨h,h,trivial⟩,λh=>by rw[h];rfl,?_⟩;have NV:(Ep p v:Int)*(Ez p v:Int)=(Ho p v:Int):=by unfold Ho;push_cast;rfl
      by_cases CY:v=0
      ·subst CY;simp only[ZHa];have Du:KR p (E6 p 0) 0=0:=by have :E6 p 0=0:=rfl;rw[this];unfold KR;split<;>rfl
       rw[Du]at A7;rw[ZGB (show(-1:Int)<0 by omega),ZHp,ZGC,NV];refine⟨by rw[←NV];exact JP,⟨by omega,by omega⟩,A7⟩
      ·simp only[ZGA CY];rw[ZGF (show¬(Ho p (E6 p v):Int)<0 by omega),ZHh,NV];by_cases hle:Ho p v≤Ho p (E6 p v);·rw[ZGB (by omega),ZGC];unfold KR at A7;rw[ZGE hle]at A7;exact⟨by rw[←NV];exact JP,⟨by omega,by omega⟩,A7⟩
       ·rw[ZGF (by omega),ZF9];unfold KR at A7;rw[ZGA hle]at A7;exact⟨⟨by omega,by omega⟩,A7⟩
    ·have :v=N:=by omega
     subst this;simp only[ZGH,ZGQ,ZF9]
def Ct.wp(x0:List (List O))(Q:List (List O)×Int→Prop):Prop:=let v0:=EN.fn (x0,());EN.pre (x0,())∧((! v0.2 !=0)=true→! v0.2 !=0=true∧True)∧( ! v0.2 !=0=true→! v0.2 !=0=true∧True)∧((v0.2 !=0)=false→(! v0.2 !=0)=true)∧cond ( v0.2 !=0||decide (400<(v0.1.length:Int))) (Q (([]:List (List O)),3)) (Q (v0.1,0))
def Fo.wp(x0:List O)(x1:Int)(x2:Int)(Q:List O→Prop):Prop:=let v0:=x0.getD x1.toNat U;let v1:=v0.2.2.1.getD x2.toNat 0;let v6:=CD.fn (v0.2.2,(x2,()));let v8:=[(2,(BV.fn (v1,()),v6))];(0≤x1∧x1<x0.length)∧(0≤x2∧x2<v0.2.2.1.length)∧(0≤x1∧x1<x0.length)∧CD.pre (v0.2.2,(x2,()))∧cond (decide (v1<0)) (Lp (σ:=Int×List O) (λy4 R4=>let v2:=x0.getD y4.1.toNat U;let v5:=[(v2.1,(v2.2.1,CD.fn (v2.2.2,(x2,()))))];let v7:=DH.fn (v2,(x2,(BV.fn (v1,()),(- -1,(v6,())))));cond (decide (y4.1<x0.length)) ((0≤y4.1∧y4.1<x0.length)∧cond (y4.1==x1) (AA .i64 (y4.1+1)∧R4 ( y4.1+1,y4.2)) ((0≤x2∧x2<v2.2.2.1.length)∧cond ( v2.2.2.1.getD x2.toNat 0==0) (CD.pre (v2.2.2,(x2,()))∧((y4.2.length+v5.length)*48≤140737488355328∧y4.2.length+v5.length≤9223372036854775807)∧AA .i64 (y4.1+1)∧R4 ( y4.1+1,y4.2++v5)) (BV.pre (v1,())∧AA .i64 (- -1)∧DH.pre (v2,(x2,(BV.fn (v1,()),(- -1,(v6,())))))∧((y4.2.length+List.length [v7])*48≤140737488355328∧y4.2.length+List.length [v7]≤9223372036854775807)∧AA .i64 (y4.1+1)∧R4 ( y4.1+1,y4.2++[v7])))) (BV.pre (v1,())∧cond (decide (1<BV.fn (v1,()))) (BV.pre (v1,())∧((y4.2.length+v8.length)*48≤140737488355328∧y4.2.length+v8.length≤9223372036854775807)∧Q (y4.2++v8)) (Q y4.2))) (0,([]:List O))) (Lp (σ:=Int×List O) (λy4 R4=>let v2:=x0.getD y4.1.toNat U;let v5:=[(v2.1,(v2.2.1,CD.fn (v2.2.2,(x2,()))))];let v9:=DH.fn (v2,(x2,(BV.fn (v1,()),(-1,(v6,())))));cond (decide (y4.1<x0.length)) ((0≤y4.1∧y4.1<x0.length)∧cond (y4.1==x1) (AA .i64 (y4.1+1)∧R4 ( y4.1+1,y4.2)) ((0≤x2∧x2<v2.2.2.1.length)∧cond ( v2.2.2.1.getD x2.toNat 0==0) (CD.pre (v2.2.2,(x2,()))∧((y4.2.length+v5.length)*48≤140737488355328∧y4.2.length+v5.length≤9223372036854775807)∧AA .i64 (y4.1+1)∧R4 ( y4.1+1,y4.2++v5)) (BV.pre (v1,())∧AA .i64 (-1)∧DH.pre (v2,(x2,(BV.fn (v1,()),(-1,(v6,())))))∧((y4.2.length+List.length [v9])*48≤140737488355328∧y4.2.length+List.length [v9]≤9223372036854775807)∧AA .i64 (y4.1+1)∧R4 ( y4.1+1,y4.2++[v9])))) (BV.pre (v1,())∧cond (decide (1<BV.fn (v1,()))) (BV.pre (v1,())∧((y4.2.length+v8.length)*48≤140737488355328∧y4.2.length+v8.length≤9223372036854775807)∧Q (y4.2++v8)) (Q y4.2))) (0,([]:List O)))
theorem Lp.flt{α β:Type}{body:Int×List β→(Int×List β→Prop)→Prop}(l:List α)(d:α)(o:List β)(f:Nat×α→Bool)(g:Nat×α→β)(hl:l.length≤9223372036854775807)(h:∀(i:Nat)(t:List β)(R:Int×List β→Prop),i<l.length→(i:Int)<(l.length:Int)→AA .i64 ((i:Int)+1)→t.length≤o.length+i→(f (i,l.getD i d)=true→R ((i:Int)+1,t++[g (i,l.getD i d)]))→(f (i,l.getD i d)=false→R ((i:Int)+1,t))→body ((i:Int),t) R)(h2:∀R:Int×List β→Prop,(o++((BU d l).filter f).map g).length≤o.length+l.length→body ((l.length:Int),o++((BU d l).filter f).map g) R):Lp body (0,o):=by
 refine Lp.iter l.length (λi y=>y=((i:Int),o++(((BU d l).take i).filter f).map g)) (by simp) ?_;rintro i y hle rfl R hR;have hlen:(o++(((BU d l).take i).filter f).map g).length≤o.length+i:=by have :=ZGf f ((BU d l).take i);rw[ZGP]at this;simp only[ZGI,ZGM];omega
 by_cases e:i<l.length
 ·have hR':=hR e _ rfl;rw[cK d l e,ZG9]at hR';refine h i _ R e (by omega) ⟨by omega,by omega⟩ hlen (λhf=>?_) λhf=>?_;·rw[ZHJ hf,ZI0,ZGp,←ZGy]at hR';exact hR'
  ·rw[ZHI (by rw[hf];simp),ZI0,ZGZ]at hR';exact hR'
 ·have :i=l.length:=by omega
  subst this;have ht:(BU d l).take l.length=BU d l:=by rw[←SZ d,ZGN]
  rw[ht]at hlen⊢;exact h2 R hlen
theorem ZE7{α:Type}(d:α)(l:List α):(BU d l).map (·.2)=l:=by apply ZHR (by simp[BU]);intro i h1 h2;simp only[BU,ZH9,ZHz];exact A6 h2
theorem P3{α β:Type}(d:α)(l:List α)(f:α→Bool)(g:α→β):((BU d l).filter λix=>f ix.2).map (λix=>g ix.2)=(l.filter f).map g:=by
 have h:((BU d l).map (·.2)).filter f=l.filter f:=by rw[ZE7]
 rw[←h,ZJj,ZHP];rfl
theorem uL{α:Type}{d:α}{l:List α}{ix:Nat×α}(h:ix∈BU d l):ix.1<l.length∧ix.2=l.getD ix.1 d∧ix.2∈l:=by simp only[BU,ZGt,ZH5]at h;obtain⟨i,hi,rfl⟩:=h;exact⟨hi,rfl,AV hi⟩
theorem Lp.flat{α β:Type}{body:Int×List β→(Int×List β→Prop)→Prop}(l:List α)(d:α)(o:List β)(g:α→List β)(hl:l.length≤9223372036854775807)(h:∀(i:Nat)(R:Int×List β→Prop),i<l.length→(i:Int)<(l.length:Int)→AA .i64 ((i:Int)+1)→R ((i:Int)+1,o++(l.take i).flatMap g++g (l.getD i d))→body ((i:Int),o++(l.take i).flatMap g) R)(h2:∀R:Int×List β→Prop,body ((l.length:Int),o++l.flatMap g) R):Lp body (0,o):=by
 refine Lp.iter l.length (λi y=>y=((i:Int),o++(l.take i).flatMap g)) (by simp) ?_;rintro i y hle rfl R hR;by_cases e:i<l.length;·refine h i R e (by omega) ⟨by omega,by omega⟩ (hR e _ ?_);rw[H7 (d:=d) e,ZKt];simp
 ·have :i=l.length:=by omega
  subst this;rw[ZGN];exact h2 R
theorem Ov{α β:Type}{g:α→List β}{k:Nat}:∀{l:List α},(∀x∈l,(g x).length≤k)→(l.flatMap g).length≤l.length*k|[],_=>by simp|x::l,h=>by rw[ZJT,ZGI,ZGL,ZHS];have h1:=h x (by simp);have h2:=Ov (l:=l) λy hy=>h y (ZGK _ hy);omega
theorem VD{a b:Int}(ha:-1048576≤a∧a≤1048576)(hb:-1048576≤b∧b≤1048576):-1099511627776≤a*b∧a*b≤1099511627776:=Ln (n:=1048576) (m:=1048576) (by omega) (by omega) ha.1 ha.2 hb.1 hb.2
theorem M5{a:Int}(ha:-1048576≤a∧a≤1048576):-1048576≤AR a∧AR a≤1048576:=by unfold AR;omega
theorem Fu.spec(x:Pc)(hp:Fu.pre (x,())):Fu.wp x λr=>r=Fu.fn (x,()):=by
 obtain⟨⟨k,EH,⟨RE,Kl⟩,_,_⟩,h0,h1⟩:=hp;simp only at EH RE Kl h0 h1;have hfn:Fu.fn (x,())=[Ms x]:=rfl;simp only[Fu.wp,hfn];unfold Ms;have he:x.2.2.2.1.toNat<x.2.2.1.length:=by omega
 have A4:=AV (d:=CL) he;obtain⟨e,MH⟩:∃e,x.2.2.1.getD x.2.2.2.1.toNat CL=e:=⟨_,rfl⟩;simp only[MH]at A4⊢;obtain⟨heM,hea,heL,hek⟩:=Kl e A4;refine⟨⟨h0,h1⟩,Ge.of (P:=λy=>y.1=AR e.2.1∧-y.2.1=if e.2.1<0 then 1 else-1) ?_ ?_⟩
 ·rintro⟨size,s,b1,b2⟩⟨KI,RS⟩;simp only at KI RS;simp only[KI,RS];have key:∀o:List O,o=x.2.1→Lp (σ:=Int×List O) (λy4 R4=>let v1:=List.getD x.2.2.1 (Int.toNat y4.1) (U,((0:Int),(([]:List Int),(0:Int))));let v3:=[(v1.1.1,( AR e.2.1*v1.1.2.1,Bm.fn (AR e.2.1,(v1.2.2,((if e.2.1<0 then 1 else-1)*v1.2.1,(e.2.2,()))))))];cond (decide (y4.1<((List.length x.2.2.1:Nat):Int))) (((0:Int)≤y4.1∧y4.1<((List.length x.2.2.1:Nat):Int))∧cond (y4.1 !=x.2.2.2.1) (AA IntKind.i64 (AR e.2.1*v1.1.2.1)∧AA IntKind.i64 (if e.2.1<0 then 1 else-1)∧AA IntKind.i64 ((if e.2.1<0 then 1 else-1)*v1.2.1)∧Bm.pre (AR e.2.1,(v1.2.2,((if e.2.1<0 then 1 else-1)*v1.2.1,(e.2.2,()))))∧((List.length y4.2+List.length v3)*48≤140737488355328∧List.length y4.2+List.length v3≤9223372036854775807)∧AA IntKind.i64 (y4.1+(1:Int))∧R4 ( y4.1+(1:Int),y4.2++v3)) (AA IntKind.i64 (y4.1+(1:Int))∧R4 ( y4.1+(1:Int),y4.2))) (cond (decide ((1:Int)<AR e.2.1)) (((List.length y4.2+List.length [((2:Int),(AR e.2.1,e.2.2))])*48≤140737488355328∧List.length y4.2+List.length [((2:Int),(AR e.2.1,e.2.2))]≤9223372036854775807)∧[y4.2++[((2:Int),(AR e.2.1,e.2.2))]]=[x.2.1++((BU CL x.2.2.1).filter λjq=>decide ((jq.1:Int)≠x.2.2.2.1)).map (λjq=>Mo e jq.2)++if 1<AR e.2.1 then[(2,AR e.2.1,e.2.2)]else[]]) ([y4.2]=[x.2.1++((BU CL x.2.2.1).filter λjq=>decide ((jq.1:Int)≠x.2.2.2.1)).map (λjq=>Mo e jq.2)++if 1<AR e.2.1 then[(2,AR e.2.1,e.2.2)]else[]]))) ((0:Int),o):=by
   intro o ho;refine Lp.flt x.2.2.1 CL o (λjq=>decide ((jq.1:Int)≠x.2.2.2.1)) (λjq=>Mo e jq.2) (by omega) (λi t R hi hi' hf Dv h1 h2=>?_) λR hlen=>?_
   ·have hm:=AV (d:=CL) hi;simp only[ZGB hi',ZGD,ZGC];obtain⟨q,hq⟩:∃q,x.2.2.1.getD i CL=q:=⟨_,rfl⟩;simp only[hq]at hm h1 h2⊢;obtain⟨Yt,Nn,RG,UL⟩:=Kl q hm;refine⟨⟨by omega,hi'⟩,?_⟩;by_cases hne:(i:Int)≠x.2.2.2.1
    ·rw[show((i:Int)!=x.2.2.2.1)=true by simpa using hne,ZGC];have hab:=M5 hea;have Em:=VD hab Yt;have hs:-1048576≤(if e.2.1<0 then(1:Int)else-1)*q.2.1∧(if e.2.1<0 then(1:Int)else-1)*q.2.1≤1048576:=by split<;>omega
     have hsf:AA IntKind.i64 (if e.2.1<0 then(1:Int)else-1):=by split<;>exact⟨by omega,by omega⟩
     refine⟨⟨by omega,by omega⟩,hsf,⟨by omega,by omega⟩,⟨hab,RG,hs,heL,by show q.2.2.1.length=e.2.2.1.length;omega⟩,⟨by simp only[ZGO];subst ho;omega,by simp only[ZGO];subst ho;omega⟩,hf,h1 (ZGB hne)⟩
    ·rw[show((i:Int)!=x.2.2.2.1)=false by simpa using hne,ZF9];exact⟨hf,h2 (ZGF hne)⟩
   ·simp only[ZGH,ZGQ,ZF9];subst ho;by_cases ha:1<AR e.2.1;·rw[ZGB ha,ZGC,ZGE ha];exact⟨⟨by simp only[ZGO];omega,by simp only[ZGO];omega⟩,rfl⟩
    ·rw[ZGF ha,ZF9,ZGA ha,ZGZ]
  rintro(_|_)hb;·simp only[ZF9,ZG8,ZGS,ZGu];exact⟨⟨by omega,by omega⟩,key _ rfl⟩
  ·simp only[ZGC];exact key _ (hb rfl).symm
 ·intro R hR;by_cases ha:e.2.1<0;·rw[ZGB ha,ZGC];exact⟨⟨by omega,by omega⟩,hR _ ⟨by simp only;unfold AR;omega,by simp only[ZGE ha];omega⟩⟩
  ·rw[ZGF ha,ZF9];exact hR _ ⟨by simp only;unfold AR;omega,by simp only[ZGA ha]⟩
theorem FT.spec(x:Pc)(hp:FT.pre (x,())):FT.wp x λr=>r=FT.fn (x,()):=by
 obtain⟨k,EH,_,⟨Gq,T9⟩,⟨Y5,UT⟩⟩:=hp;simp only at EH Gq T9 Y5 UT;obtain⟨g,hg⟩:∃g:Part→List O,g=λl=>x.2.2.2.2.2.1.map λu=>(0,0,BD l.2.1 u.2.2 (-u.2.1) l.2.2):=⟨_,rfl⟩;have hfn:FT.fn (x,())=[x.2.1++x.2.2.2.2.1.flatMap g]:=by rw[hg]
 simp only[FT.wp,hfn];have Hu:∀l:List Part,l.length≤400→(l.flatMap g).length≤160000:=λl hl=>by
  have :=Ov (g:=g) (k:=400) (l:=l) λy hy=>by rw[hg];simp only[ZGM];exact Y5
  have :=ZIE hl (ZGR 400);omega
 have key:∀o:List O,o=x.2.1→Lp (σ:=Int×List O) (λy3 R3=>let v3:=List.getD x.2.2.2.2.1 (Int.toNat y3.1) (U,((0:Int),(([]:List Int),(0:Int))));cond (decide (y3.1<((List.length x.2.2.2.2.1:Nat):Int))) (((0:Int)≤y3.1∧y3.1<((List.length x.2.2.2.2.1:Nat):Int))∧Lp (σ:=Int×List O) (λy5 R5=>let v2:=List.getD x.2.2.2.2.2.1 (Int.toNat y5.1) (U,((0:Int),(([]:List Int),(0:Int))));let v5:=[((0:Int),((0:Int),Bm.fn (v3.2.1,(v2.2.2,(-v2.2.1,(v3.2.2,()))))))];cond (decide (y5.1<((List.length x.2.2.2.2.2.1:Nat):Int))) (((0:Int)≤y5.1∧y5.1<((List.length x.2.2.2.2.2.1:Nat):Int))∧AA IntKind.i64 (-v2.2.1)∧Bm.pre (v3.2.1,(v2.2.2,(-v2.2.1,(v3.2.2,()))))∧((List.length y5.2+List.length v5)*48≤140737488355328∧List.length y5.2+List.length v5≤9223372036854775807)∧AA IntKind.i64 (y5.1+(1:Int))∧R5 ( y5.1+(1:Int),y5.2++v5)) (AA IntKind.i64 (y3.1+(1:Int))∧R3 ( y3.1+(1:Int),y5.2))) ((0:Int),y3.2)) ([y3.2]=[x.2.1++x.2.2.2.2.1.flatMap g])) ((0:Int),o):=by
  intro o ho;refine Lp.flat x.2.2.2.2.1 CL o g (by omega) (λi R hi hi' hf hR=>?_) λR=>?_
  ·have hm:=AV (d:=CL) hi;simp only[ZGB hi',ZGD,ZGC];obtain⟨l,hl⟩:∃l,x.2.2.2.2.1.getD i CL=l:=⟨_,rfl⟩;simp only[hl]at hm hR⊢;obtain⟨Yt,Nn,RG,UL⟩:=T9 l hm;refine⟨⟨by omega,hi'⟩,?_⟩;have Lf:(x.2.2.2.2.1.take i).length≤400:=by rw[ZGP];omega
   have ho1:=Hu _ Lf;refine Lp.flt x.2.2.2.2.2.1 CL _ (λ_=>true) (λju=>(0,0,BD l.2.1 ju.2.2.2 (-ju.2.2.1) l.2.2)) (by omega) (λj t R1 hj hj' II Dv h1 h2=>?_) λR1 hlen=>?_
   ·have mA:=AV (d:=CL) hj;simp only[ZGB hj',ZGD,ZGC];obtain⟨u,hu⟩:∃u,x.2.2.2.2.2.1.getD j CL=u:=⟨_,rfl⟩;simp only[hu]at mA h1⊢;obtain⟨huM,hua,huL,huk⟩:=UT u mA;have ZF5:t.length≤170000:=by rw[ZGI]at Dv;subst ho;omega
    exact⟨⟨by omega,hj'⟩,⟨by omega,by omega⟩,⟨Nn,huL,⟨by show-1048576≤-u.2.1;omega,by show-u.2.1≤1048576;omega⟩,RG,by show u.2.2.1.length=l.2.2.1.length;omega⟩,⟨by simp only[ZGO];omega,by simp only[ZGO];omega⟩,II,h1 trivial⟩
   ·simp only[ZGH,ZGQ,ZF9];refine⟨hf,?_⟩;have e:=P3 CL x.2.2.2.2.2.1 (λ_=>true) λu=>((0:Int),(0:Int),BD l.2.1 u.2.2 (-u.2.1) l.2.2);rw[e,List.filter_eq_self.2 λ_ _=>rfl];rw[hg]at hR⊢;exact hR
  ·simp only[ZGH,ZGQ,ZF9];rw[ho]
 rintro(_|_)hb;·simp only[ZF9,ZG8,ZGS,ZGu];exact⟨⟨by omega,by omega⟩,key _ rfl⟩
 ·simp only[ZGC];exact key _ (hb rfl).symm
theorem ZEh{n l:Int}(hl:l≠0)(hn:-1048576≤n∧n≤1048576):-1048576≤n.tdiv l∧n.tdiv l≤1048576:=by
 have h:(n.tdiv l).natAbs≤n.natAbs:=by rw[ZKO];exact ZKP _ _
 omega
theorem CM.spec(x:Pc)(l:Int)(w:AN)(all:Bool)(hp:CM.pre (x,l,w,all,())):CM.wp x l w all λr=>r=CM.fn (x,l,w,all,()):=by
 obtain⟨⟨k,⟨EH,⟨RE,Kl⟩,_,_⟩,hwk⟩,CW,hw⟩:=hp;simp only at EH RE Kl hwk CW hw;have hfn:CM.fn (x,l,w,all,())=x.2.1++(x.2.2.1.filter λq=>all||decide (q.1.1=2)).map (λq=>(q.1.1,q.1.2.1,BD 1 q.2.2 (q.2.1.tdiv l) w))++[(2,l,w)]:=rfl;simp only[CM.wp,hfn];have key:∀o:List O,o=x.2.1→Lp (σ:=Int×List O) (λy6 R6=>let v0:=List.getD x.2.2.1 (Int.toNat y6.1) (U,((0:Int),(([]:List Int),(0:Int))));let v2:=[(v0.1.1,(v0.1.2.1,Bm.fn ((1:Int),(v0.2.2,(Int.tdiv v0.2.1 l,(w,()))))))];cond (decide (y6.1<((List.length x.2.2.1:Nat):Int))) (((0:Int)≤y6.1∧y6.1<((List.length x.2.2.1:Nat):Int))∧((!all)=true→(!all)=true∧True)∧((!all)=true→(!all)=true∧True)∧((!all)=true→(!all)=true∧True)∧(all=false→(!all)=true)∧cond (all||v0.1.1==(2:Int)) ((l≠(0:Int)∧AA IntKind.i64 (Int.tdiv v0.2.1 l))∧Bm.pre ((1:Int),(v0.2.2,(Int.tdiv v0.2.1 l,(w,()))))∧((List.length y6.2+List.length v2)*48≤140737488355328∧List.length y6.2+List.length v2≤9223372036854775807)∧AA IntKind.i64 (y6.1+(1:Int))∧R6 ( y6.1+(1:Int),y6.2++v2)) (AA IntKind.i64 (y6.1+(1:Int))∧R6 ( y6.1+(1:Int),y6.2))) (((List.length y6.2+List.length [((2:Int),(l,w))])*48≤140737488355328∧List.length y6.2+List.length [((2:Int),(l,w))]≤9223372036854775807)∧y6.2++[((2:Int),(l,w))]=x.2.1++(x.2.2.1.filter λq=>all||decide (q.1.1=2)).map (λq=>(q.1.1,q.1.2.1,BD 1 q.2.2 (q.2.1.tdiv l) w))++[(2,l,w)])) ((0:Int),o):=by
  intro o ho;refine Lp.flt x.2.2.1 CL o (λjq=>all||decide (jq.2.1.1=2)) (λjq=>(jq.2.1.1,jq.2.1.2.1,BD 1 jq.2.2.2 (jq.2.2.1.tdiv l) w)) (by omega) (λi t R hi hi' hf Dv h1 h2=>?_) λR hlen=>?_;·have hm:=AV (d:=CL) hi;simp only[ZGB hi',ZGD,ZGC];obtain⟨q,hq⟩:∃q,x.2.2.1.getD i CL=q:=⟨_,rfl⟩;simp only[hq]at hm h1 h2⊢;obtain⟨Yt,Nn,RG,UL⟩:=Kl q hm;have JY:=ZEh CW Nn;refine⟨⟨by omega,hi'⟩,λh=>⟨h,trivial⟩,λh=>⟨h,trivial⟩,λh=>⟨h,trivial⟩,λh=>by rw[h];rfl,?_⟩;have JP:(all||q.1.1==2)=(all||decide (q.1.1=2)):=rfl;rw[JP];cases hb:all||decide (q.1.1=2)with|true=>rw[ZGC];exact⟨⟨CW,⟨by omega,by omega⟩⟩,⟨⟨by show(-1048576:Int)≤1;omega,by show(1:Int)≤1048576;omega⟩,RG,JY,hw,by show q.2.2.1.length=w.1.length;omega⟩,⟨by simp only[ZGO];subst ho;omega,by simp only[ZGO];subst ho;omega⟩,hf,h1 hb⟩|false=>rw[ZF9];exact⟨hf,h2 hb⟩
  ·simp only[ZGH,ZGQ,ZF9];subst ho;refine⟨⟨by simp only[ZGO];omega,by simp only[ZGO];omega⟩,?_⟩;rw[P3 CL x.2.2.1 (λq=>all||decide (q.1.1=2)) λq=>(q.1.1,q.1.2.1,BD 1 q.2.2 (q.2.1.tdiv l) w)]
 rintro(_|_)hb;·simp only[ZF9,ZG8,ZGS,ZGu];exact⟨⟨by omega,by omega⟩,key _ rfl⟩
 ·simp only[ZGC];exact key _ (hb rfl).symm
theorem bH{l:AN}(h:Hk l)(v:Nat):Hk (Az l.1 v,l.2):=
 ⟨by have :(Az l.1 v).length≤l.1.length:=by unfold Az;simp;omega
     have :=h.1;show(Az l.1 v).length≤_;omega,λn hn=>h.2.1 n (Wc hn),h.2.2⟩
theorem DH.spec(c:O)(v m k:Int)(w:AN)(hp:DH.pre (c,v,m,k,w,())):DH.wp c v m k w λr=>r=DH.fn (c,v,m,k,w,()):=by
 obtain⟨⟨n,⟨hM,hL,hn⟩,hn4,hwn,CY,Bk⟩,Co,hm,hk,hw⟩:=hp;simp only at hM hL hn hn4 hwn CY Bk Co hm hk hw;simp only[DH.wp,DH.fn];have hlen:(v:Int)<(c.2.2.1.length:Int):=by omega
 have D4:c.2.2.1.getD v.toNat 0=Z v.toNat c:=rfl;have Em:=VD hM hm;have NU:-1048576≤Z v.toNat c*k∧Z v.toNat c*k≤1048576:=by rcases hk with rfl|rfl<;>omega
 have hcl:(Az c.2.2.1 v.toNat).length=c.2.2.1.length-1:=NC (by omega);refine⟨⟨by show c.2.2.1.length≤1048576;omega,CY,hlen⟩,⟨by omega,by omega⟩,⟨CY,hlen⟩,⟨by rw[D4];omega,by rw[D4];omega⟩,⟨hm,bH hL _,by rw[D4];exact NU,hw,by show(Az c.2.2.1 v.toNat).length=w.1.length;omega⟩,rfl⟩
theorem Ct.spec(l:List (List O))(hp:Ct.pre (l,())):Ct.wp l λr=>r=Ct.fn (l,()):=by
 have hfn:Ct.fn (l,())=GN l:=rfl;simp only[Ct.wp,hfn];have Nl:EN.fn (l,())=OA l:=rfl;simp only[Nl];refine⟨hp,λh=>⟨h,trivial⟩,λh=>⟨h,trivial⟩,λh=>by rw[h];rfl,?_⟩;have ht:Bg l=(l.foldlM Hf []).bind λo=>if 400<o.length then none else some o:=Vd l [] (by simp);unfold GN OA;simp only[ht];rcases CN (l.foldlM Hf [])with e|⟨out,e⟩;·simp only[e];rfl
 ·simp only[e,ZHc];by_cases h:400<out.length;·simp only[ZGE h,ZGB (show(400:Int)<((out.length:Nat):Int)by omega),ZHo,ZGC]
  ·simp only[ZGA h,ZGF (show¬(400:Int)<((out.length:Nat):Int)by omega)];simp
theorem pieceN.c{p:List O}{n:Int}(h:pieceN p n){c:O}(hc:c∈p):AG c=true∧(c.2.2.1.length:Int)=n:=h.2.1 c hc
theorem SY{c:O}(h:AG c=true):-1048576≤c.2.1∧c.2.1≤1048576:=by
 unfold AG at h;split at h;·simp only[ZGW,ZIF]at h;omega
 ·split at h;·simp only[ZGW,ZGw]at h;omega
  ·cases h
theorem cJ{c:O}(h:AG c=true):Hk c.2.2:=by have hl:=Bo.b (AG.lin h);exact⟨by show c.2.2.1.length≤1048576;omega,λn hn=>by have :=hl.2.1 n hn;omega,by show-4294967296≤c.2.2.2;omega,by show c.2.2.2≤4294967296;omega⟩
theorem Fo.spec(p:List O)(eq v:Int)(hp:Fo.pre (p,eq,v,())):Fo.wp p eq v λr=>r=Fo.fn (p,eq,v,()):=by
 obtain⟨⟨n,hN,CY,Bk⟩,h0,h1,hne⟩:=hp;simp only at hN CY Bk h0 h1 hne;have hfn:Fo.fn (p,eq,v,())=H6 v.toNat p eq.toNat:=rfl;have RP:∀l:AN,CD.fn (l,v,())=(Az l.1 v.toNat,l.2):=λ_=>rfl;have Ys:∀c m k w,DH.fn (c,v,m,k,w,())=(c.1,c.2.1*m,BD m (AI v.toNat c) (Z v.toNat c*k) w):=λ_ _ _ _=>rfl;simp only[Fo.wp,hfn,BV.fn,RP,Ys];have he:eq.toNat<p.length:=by omega
 have A4:=AV (d:=U) he;have FD:H6 v.toNat p eq.toNat=((BU U p).filter λjc=>decide (jc.1≠eq.toNat)).map (λjc=>if Z v.toNat jc.2=0 then GR v.toNat jc.2 else Fg v.toNat (p.getD eq.toNat U) jc.2)++if 1<AR (Z v.toNat (p.getD eq.toNat U))then[(2,AR (Z v.toNat (p.getD eq.toNat U)),AI v.toNat (p.getD eq.toNat U))]else[]:=rfl;rw[FD];obtain⟨e,MH⟩:∃e,p.getD eq.toNat U=e:=⟨_,rfl⟩;simp only[MH]at A4 hne⊢;obtain⟨lI,YC⟩:=hN.c A4;have Xy:e.2.2.1.getD v.toNat 0=Z v.toNat e:=rfl;simp only[Xy];obtain⟨a,ha⟩:∃a,Z v.toNat e=a:=⟨_,rfl⟩;have hab:=E7 lI v.toNat;simp only[ha]at hne hab⊢;have ZFr:e.2.2.1.length≤12:=by have :=hN.2.2.2;omega
 refine⟨⟨h0,h1⟩,⟨CY,by omega⟩,⟨h0,h1⟩,⟨by show e.2.2.1.length≤1048576;omega,CY,by show v<(e.2.2.1.length:Int);omega⟩,?_⟩;have Am:CF a:=⟨by omega,by omega⟩;have key:∀k:Int,k=(if a<0 then 1 else-1)→Lp (σ:=Int×List O) (λy4 R4=>let v2:=List.getD p (Int.toNat y4.1) U;let v5:=[(v2.1,(v2.2.1,(Az v2.2.2.1 v.toNat,v2.2.2.2)))];let v7:=((v2.1,v2.2.1*AR a,BD (AR a) (AI v.toNat v2) (Z v.toNat v2*k) (Az e.2.2.1 v.toNat,e.2.2.2)):O);cond (decide (y4.1<((List.length p:Nat):Int))) (((0:Int)≤y4.1∧y4.1<((List.length p:Nat):Int))∧cond (y4.1==eq) (AA IntKind.i64 (y4.1+(1:Int))∧R4 ( y4.1+(1:Int),y4.2)) (((0:Int)≤v∧v<((List.length v2.2.2.1:Nat):Int))∧cond ( List.getD v2.2.2.1 (Int.toNat v) (0:Int)==(0:Int)) (CD.pre (v2.2.2,(v,()))∧((List.length y4.2+List.length v5)*48≤140737488355328∧List.length y4.2+List.length v5≤9223372036854775807)∧AA IntKind.i64 (y4.1+(1:Int))∧R4 ( y4.1+(1:Int),y4.2++v5)) (BV.pre (a,())∧AA IntKind.i64 k∧DH.pre (v2,(v,(AR a,(k,((Az e.2.2.1 v.toNat,e.2.2.2),())))))∧((List.length y4.2+List.length [v7])*48≤140737488355328∧List.length y4.2+List.length [v7]≤9223372036854775807)∧AA IntKind.i64 (y4.1+(1:Int))∧R4 ( y4.1+(1:Int),y4.2++[v7])))) (BV.pre (a,())∧cond (decide ((1:Int)<AR a)) (BV.pre (a,())∧((List.length y4.2+List.length [((2:Int),(AR a,(Az e.2.2.1 v.toNat,e.2.2.2)))])*48≤140737488355328∧List.length y4.2+List.length [((2:Int),(AR a,(Az e.2.2.1 v.toNat,e.2.2.2)))]≤9223372036854775807)∧y4.2++[((2:Int),(AR a,(Az e.2.2.1 v.toNat,e.2.2.2)))]=((BU U p).filter λjc=>decide (jc.1≠eq.toNat)).map (λjc=>if Z v.toNat jc.2=0 then GR v.toNat jc.2 else Fg v.toNat e jc.2)++if 1<AR a then[(2,AR a,AI v.toNat e)]else[]) (y4.2=((BU U p).filter λjc=>decide (jc.1≠eq.toNat)).map (λjc=>if Z v.toNat jc.2=0 then GR v.toNat jc.2 else Fg v.toNat e jc.2)++if 1<AR a then[(2,AR a,AI v.toNat e)]else[]))) ((0:Int),([]:List O)):=by
  intro k hk;have EH:=hN.1;refine Lp.flt p U [] (λjc=>decide (jc.1≠eq.toNat)) (λjc=>if Z v.toNat jc.2=0 then GR v.toNat jc.2 else Fg v.toNat e jc.2) (by omega) (λi t R hi hi' hf Dv h1 h2=>?_) λR hlen=>?_
  ·have hm:=AV (d:=U) hi;simp only[ZGB hi',ZGD,ZGC];obtain⟨c,hq⟩:∃c,p.getD i U=c:=⟨_,rfl⟩;simp only[hq]at hm h1 h2⊢;obtain⟨JQ,hcl⟩:=hN.c hm;refine⟨⟨by omega,hi'⟩,?_⟩;by_cases ML:(i:Int)=eq;·rw[show((i:Int)==eq)=true by simpa using ML,ZGC];exact⟨hf,h2 (by simp;omega)⟩
   ·rw[show((i:Int)==eq)=false by simpa using ML,ZF9];have h1':=h1 (by simp;omega);have ZA9:c.2.2.1.getD v.toNat 0=Z v.toNat c:=rfl;simp only[ZA9];refine⟨⟨CY,by omega⟩,?_⟩;simp only[ZGS,ZGu]at Dv;by_cases Be:Z v.toNat c=0;·rw[show(Z v.toNat c==0)=true by simpa using Be,ZGC];rw[ZGE Be]at h1';exact⟨⟨by show c.2.2.1.length≤1048576;omega,CY,by show v<(c.2.2.1.length:Int);omega⟩,⟨by simp only[ZGO];omega,by simp only[ZGO];omega⟩,hf,h1'⟩
    ·rw[show(Z v.toNat c==0)=false by simpa using Be,ZF9];rw[ZGA Be]at h1';have EW:Fg v.toNat e c=(c.1,c.2.1*AR a,BD (AR a) (AI v.toNat c) (Z v.toNat c*k) (Az e.2.2.1 v.toNat,e.2.2.2)):=by rw[hk];unfold Fg;rw[ha];rfl
     rw[EW]at h1';have ZFm:(Az e.2.2.1 v.toNat).length=e.2.2.1.length-1:=NC (by omega);refine⟨Am,by rw[hk];split<;>exact⟨by omega,by omega⟩,⟨⟨c.2.2.1.length,⟨SY JQ,cJ JQ,rfl⟩,by have :=hN.2.2.2;omega,by show(Az e.2.2.1 v.toNat).length+1=c.2.2.1.length;omega,CY,by show v<(c.2.2.1.length:Int);omega⟩,E7 JQ _,M5 hab,by show k=1∨k=-1;rw[hk];split<;>simp,bH (cJ lI) _⟩,⟨by simp only[ZGO];omega,by simp only[ZGO];omega⟩,hf,h1'⟩
  ·simp only[ZGH,ZGQ,ZF9,ZG8]at hlen⊢;simp only[ZGS,ZGu]at hlen;refine⟨Am,?_⟩;by_cases NQ:1<AR a;·rw[ZGB NQ,ZGC,ZGE NQ];exact⟨Am,⟨by simp only[ZGO];omega,by simp only[ZGO];omega⟩,rfl⟩
   ·rw[ZGF NQ,ZF9,ZGA NQ,ZGZ]
 by_cases Cj:a<0;·rw[ZGB Cj,ZGC];exact key (- -(1:Int)) (by rw[ZGE Cj];omega)
 ·rw[ZGF Cj,ZF9];exact key (-(1:Int)) (by rw[ZGA Cj])
section
theorem Ck{v:Nat}{p:List O}{c:O}:c∈AK v p↔c∈p∧Z v c≠0:=by simp[AK]
theorem Mb{v:Nat}{p:List O}(h:(Ac v p).2=0):(Ac v p).1=(DF ((AK v p).map λc=>AR (Z v c)):Int)∧1≤(Ac v p).1∧(Ac v p).1≤512:=by
 unfold Ac at h⊢;rcases ZR ((AK v p).map λc=>AR (Z v c))with h1|h1|⟨h1,h2,h3,h4⟩;·rw[h]at h1;cases h1
 ·rw[h]at h1;cases h1
 ·rw[h3];have :=Uj h2;exact⟨rfl,by omega,by omega⟩
theorem KV{v:Nat}{p:List O}(h:(Ac v p).2=0){c:O}(hc:c∈AK v p):Ad v (Ac v p).1 c*AR (Z v c)=(Ac v p).1∧1≤Ad v (Ac v p).1 c∧Ad v (Ac v p).1 c≤512∧1≤AR (Z v c):=by
 obtain⟨h1,h2,h3⟩:=Mb h;have ha:1≤AR (Z v c):=by have :=(Ck.1 hc).2;unfold AR;omega
 have hd:AR (Z v c)∣(Ac v p).1:=by rw[h1];exact Oh (ZH6 (f:=λc=>AR (Z v c)) hc)
 obtain⟨l,hl⟩:∃l,(Ac v p).1=l:=⟨_,rfl⟩;rw[hl]at h2 h3 hd⊢;unfold Ad;have hm:l.tdiv (AR (Z v c))*AR (Z v c)=l:=Int.tdiv_mul_cancel hd;have hq:l.tdiv (AR (Z v c))=l/AR (Z v c):=ZJJ (by omega);refine⟨hm,?_,?_,ha⟩
 ·rw[hq]at hm⊢;have h0:0≤l/AR (Z v c):=Int.ediv_nonneg (by omega) (by omega);rcases ZKz 0 (l/AR (Z v c))with h|h;·omega
  ·have :l/AR (Z v c)=0:=by omega
   rw[this]at hm;omega
 ·rw[hq];exact ZKy (Int.ediv_le_self _ (by omega)) h3
theorem Uh{v:Nat}{p:List O}{l:Int}(h:(Ce v p l).2=0):1≤(Ce v p l).1∧(Ce v p l).1≤512∧l∣(Ce v p l).1∧∀c∈AK v p,c.1=2→c.2.1*Ad v l c∣(Ce v p l).1:=by
 unfold Ce at h⊢;rcases ZR (l::((AK v p).filter λc=>decide (c.1=2)).map λc=>c.2.1*Ad v l c)with h1|h1|⟨h1,h2,h3,h4⟩;·rw[h]at h1;cases h1
 ·rw[h]at h1;cases h1
 ·rw[h3];have :=Uj h2;refine⟨by omega,by omega,Oh (by simp),λc hc h2'=>Oh (ZGK _ ?_)⟩;exact ZH6 (f:=λc=>c.2.1*Ad v l c) (List.mem_filter.2 ⟨hc,by simpa using h2'⟩)
def F1(B:Int)(n:Nat)(l:AN):Prop:=l.1.length=n∧(∀x∈l.1,-B≤x∧x≤B)∧-B≤l.2∧l.2≤B
theorem F1.small{B:Int}{n:Nat}{l:AN}(h:F1 B n l)(hB:B≤4294967296)(hn:n≤1048576):Hk l:=⟨by have :=h.1;omega,λx hx=>by have :=h.2.1 x hx;omega,by have :=h.2.2;omega,by have :=h.2.2;omega⟩
theorem F1.linB{B:Int}{n:Nat}{l:AN}(h:F1 B n l)(hB:B≤2305843009213693952)(hn:n≤1048576):linB l:=⟨by have :=h.1;omega,λx hx=>by have :=h.2.1 x hx;unfold CF;omega,by have :=h.2.2;unfold CF;omega⟩
theorem F1.getD{B:Int}{n:Nat}{l:AN}(h:F1 B n l)(hB:0≤B)(i:Nat):-B≤l.1.getD i 0∧l.1.getD i 0≤B:=Xa (P:=λx=>-B≤x∧x≤B) h.2.1 (by omega)
theorem Ur{a b A B C D:Int}{l m:AN}{n:Nat}(hA:0≤A)(hB:0≤B)(hC:0≤C)(hD:0≤D)(ha:-A≤a∧a≤A)(hl:F1 C n l)(hb:-B≤b∧b≤B)(hm:F1 D n m):F1 (A*C+B*D) n (BD a l b m):=by
 have key:∀x y:Int,-C≤x∧x≤C→-D≤y∧y≤D→-(A*C+B*D)≤a*x+b*y∧a*x+b*y≤A*C+B*D:=λx y hx hy=>by have h1:=Ln hA hC ha.1 ha.2 hx.1 hx.2;have h2:=Ln hB hD hb.1 hb.2 hy.1 hy.2;omega
 refine⟨by simp[BD,hl.1],λx hx=>?_,key _ _ hl.2.2 hm.2.2⟩;simp only[BD,ZGt,ZH5]at hx;obtain⟨i,hi,rfl⟩:=hx;exact key _ _ (hl.getD hC i) (hm.getD hD i)
theorem KL{c:O}{n:Int}{v:Nat}(h:AG c=true∧(c.2.2.1.length:Int)=n)(hv:(v:Int)<n):F1 1048576 (n.toNat-1) (AI v c):=by have hl:=Bo.b (AG.lin h.1);refine⟨?_,λx hx=>hl.2.1 x (Wc hx),hl.2.2⟩;show(Az c.2.2.1 v).length=_;rw[NC (by omega)];omega
theorem Vk{c:O}(h:AG c=true):MZ c:=by
 unfold AG at h;split at h;·rename_i h1;exact h1.elim .inl λh=>.inr (.inl h)
 ·split at h;·rename_i h2;simp only[ZGW,ZGw]at h;exact .inr (.inr ⟨h2,by omega,by omega⟩)
  ·cases h
theorem qO{c:O}{n:Int}{v:Nat}(h:AG c=true∧(c.2.2.1.length:Int)=n)(hv:(v:Int)<n)(hn:n≤12):condB (GR v c)∧(GR v c).2.2.1.length=n.toNat-1:=by have hr:=KL h hv;have hk:=Vk h.1;exact⟨⟨hk,hr.linB (by omega) (by omega)⟩,hr.1⟩
theorem oF{k m f:Int}{l l':AN}(h:MZ (k,m,l))(hm:-1048576≤m∧m≤1048576)(h1:1≤f)(h2:f≤1048576):MZ (k,m*f,l'):=by
 rcases h with h|h|⟨h,h3,h4⟩;·exact .inl h
 ·exact .inr (.inl h)
 ·simp only at h h3 h4;have h5:=ZKX h3 h1 (by omega) (by omega);have h6:=VD hm (b:=f) (by omega);exact .inr (.inr ⟨h,by show 1≤m*f;omega,by show m*f≤2305843009213693952;omega⟩)
theorem ZDN{c e:O}{n:Int}{v:Nat}(h:AG c=true∧(c.2.2.1.length:Int)=n)(he:AG e=true∧(e.2.2.1.length:Int)=n)(hv:(v:Int)<n)(hn:n≤12)(h0:Z v e≠0):condB (Fg v e c)∧(Fg v e c).2.2.1.length=n.toNat-1:=by
 have hr:=KL h hv;have Bn:=KL he hv;have hab:=M5 (E7 he.1 v);have JP:=E7 h.1 v;have JO:1≤AR (Z v e):=by unfold AR;omega
 have hs:-1048576≤Z v c*(if Z v e<0 then 1 else-1)∧Z v c*(if Z v e<0 then 1 else-1)≤1048576:=by split<;>omega
 have hm:=Ur (A:=1048576) (B:=1048576) (by omega) (by omega) (by omega) (by omega) hab hr hs Bn;exact⟨⟨oF (Vk h.1) (SY h.1) JO hab.2,hm.linB (by omega) (by omega)⟩,hm.1⟩
theorem SJ{c:O}{n:Int}{v:Nat}{l:Int}(h:AG c=true∧(c.2.2.1.length:Int)=n)(hv:(v:Int)<n)(hf:1≤Ad v l c∧Ad v l c≤512):F1 536870912 (n.toNat-1) (Dp v l c):=by have hr:=KL h hv;have key:∀x:Int,-1048576≤x∧x≤1048576→-536870912≤Ad v l c*x∧Ad v l c*x≤536870912:=λx hx=>Ln (n:=512) (m:=1048576) (by omega) (by omega) (by omega) hf.2 hx.1 hx.2;refine⟨by simp[Dp,hr.1],λx hx=>?_,key _ hr.2.2⟩;simp only[Dp,ZGt]at hx;obtain⟨y,hy,rfl⟩:=hx;exact key y (hr.2.1 y hy)
theorem ZEX{c:O}{n:Int}{v:Nat}{l:Int}{w:AN}(h:AG c=true∧(c.2.2.1.length:Int)=n)(hv:(v:Int)<n)(hn:n≤12)(hf:1≤Ad v l c∧Ad v l c≤512)(hw:F1 536871424 (n.toNat-1) w):condB (Mu v l w c)∧(Mu v l w c).2.2.1.length=n.toNat-1:=by have hs:=SJ h hv hf;have hm:=Ur (A:=1) (B:=1) (by omega) (by omega) (by omega) (by omega) (show(-1:Int)≤1∧(1:Int)≤1 by omega) hs (show-1≤C3 (Z v c)∧C3 (Z v c)≤1 by unfold C3;split<;>omega) hw;exact⟨⟨oF (Vk h.1) (SY h.1) hf.1 (by omega),hm.linB (by omega) (by omega)⟩,hm.1⟩
theorem Zj{c:O}{n:Int}{v:Nat}{l:Int}{low:Bool}{j:Nat}(h:AG c=true∧(c.2.2.1.length:Int)=n)(hv:(v:Int)<n)(hf:1≤Ad v l c∧Ad v l c≤512)(hj:j≤512):F1 536871424 (n.toNat-1) (Dx v l c low j):=by have hs:=SJ h hv hf;cases low with|true=>refine⟨by simp[Dx,hs.1],λx hx=>?_,by have :=hs.2.2;simp only[Dx,ZHa];omega⟩;simp only[Dx,ZHa,ZGt]at hx;obtain⟨y,hy,rfl⟩:=hx;have :=hs.2.1 y hy;omega|false=>refine⟨by simp[Dx,hs.1],λx hx=>?_,by have :=hs.2.2;simp only[Dx,ZGh,ZHM];omega⟩;simp only[Dx,ZGh,ZHM]at hx;have :=hs.2.1 x hx;omega
theorem U0{n:Nat}{j:Nat}(hj:j≤512):F1 536871424 n (List.replicate n 0,(j:Int)):=⟨by simp,λx hx=>by rw[(List.mem_replicate.1 hx).2];omega,by simp only;omega⟩
def KY(n:Nat)(q:List O):Prop:=q.length≤200000∧∀c∈q,condB c∧c.2.2.1.length=n
theorem KY.D{n:Nat}{q:List O}(h:KY n q):BN q∧A3 q n:=⟨⟨by have :=h.1;omega,λc hc=>(h.2 c hc).1⟩,λc hc=>(h.2 c hc).2⟩
section
variable {p : List O} {n : Int} {v : Nat}
theorem LO:(Ba v p).length≤p.length:=by unfold Ba;rw[ZGM];exact ZGf _ _
theorem Ta(h:pieceN p n)(hv:(v:Int)<n):∀c∈Ba v p,condB c∧c.2.2.1.length=n.toNat-1:=λc hc=>by simp only[Ba,ZGt,ZHx]at hc;obtain⟨d,⟨hd,_⟩,rfl⟩:=hc;exact qO (h.c hd) hv h.2.2.2
theorem bI(h:pieceN p n)(hv:(v:Int)<n){i:Nat}(hi:i<p.length)(h0:Z v (p.getD i U)≠0):KY (n.toNat-1) (H6 v p i):=by
 have hm:=AV (d:=U) hi;have he:=h.c hm;have hr:=KL he hv;have hab:=M5 (E7 he.1 v);refine⟨?_,λc hc=>?_⟩;·unfold H6;have :=ZGf (λjc:Nat×O=>decide (jc.1≠i)) (BU U p);rw[SZ]at this;have :=h.1;simp only[ZGI,ZGM];split<;>simp only[ZGL,ZGS]<;>omega
 ·unfold H6 at hc;rcases List.mem_append.1 hc with hc|hc
  ·simp only[ZGt,ZHx]at hc;obtain⟨jc,⟨hj,_⟩,rfl⟩:=hc;have hd:=h.c (uL hj).2.2;split;·exact qO hd hv h.2.2.2
   ·exact ZDN hd he hv h.2.2.2 h0
  ·split at hc;·rename_i h1;simp only[ZGT]at hc;subst hc;exact⟨⟨.inr (.inr ⟨rfl,by show 1≤AR _;omega,by show AR _≤_;omega⟩),hr.linB (by omega) (by have :=h.2.2.2;omega)⟩,hr.1⟩
   ·cases hc
theorem Z1(h:pieceN p n)(hv:(v:Int)<n):KY (n.toNat-1) (I6 v p):=by
 have hle:∀f:O→Bool,(p.filter f).length≤400:=λf=>ZGd (ZGf _ _) h.1;refine⟨?_,λc hc=>?_⟩
 ·unfold I6;have h1:=LO (v:=v) (p:=p);have h2:=Ov (g:=λx=>(Aj v p).map (Kw v x)) (k:=400) (l:=Ak v p) λx hx=>by rw[ZGM];exact hle _
  have h3:=ZIE (hle λc=>decide (Z v c≠0∧c.1≠1∧c.1≠2∧0<Z v c)) (ZGR 400);have h4:(Ak v p).length*400≤400*400:=h3;have :=h.1;rw[ZGI];omega
 ·unfold I6 at hc;rcases List.mem_append.1 hc with hc|hc;·exact Ta h hv c hc
  ·simp only[ZJY,ZGt]at hc;obtain⟨x,hx,y,hy,rfl⟩:=hc;have hx':=h.c (List.mem_filter.1 hx).1;have hy':=h.c (List.mem_filter.1 hy).1;have NX:=E7 hx'.1 v;have kY:=E7 hy'.1 v;have hm:=Ur (A:=1048576) (B:=1048576) (by omega) (by omega) (by omega) (by omega) NX (KL hy' hv) (show-1048576≤-Z v y∧-Z v y≤1048576 by omega) (KL hx' hv);exact⟨⟨.inl rfl,hm.linB (by omega) (by have :=h.2.2.2;omega)⟩,hm.1⟩
theorem bT(h:pieceN p n)(hv:(v:Int)<n)(hl:(Ac v p).2=0){w:AN}(hw:F1 536871424 (n.toNat-1) w)(all:Bool):KY (n.toNat-1) (CQ v p (Ac v p).1 w all):=by
 obtain⟨EJ,G9,YY⟩:=Mb hl;refine⟨?_,λc hc=>?_⟩;·unfold CQ;have h1:=LO (v:=v) (p:=p);have h2:=ZGf (λc:O=>all||decide (c.1=2)) (AK v p);have h3:(AK v p).length≤p.length:=ZGf _ _;have :=h.1;simp only[ZGI,ZGM,ZGL,ZGS];omega
 ·unfold CQ at hc;rcases List.mem_append.1 hc with hc|hc
  ·rcases List.mem_append.1 hc with hc|hc;·exact Ta h hv c hc
   ·simp only[ZGt,ZHx]at hc;obtain⟨d,⟨hd,_⟩,rfl⟩:=hc;obtain⟨_,f1,f2,_⟩:=KV hl hd;exact ZEX (h.c (Ck.1 hd).1) hv h.2.2.2 ⟨f1,f2⟩ hw
  ·simp only[ZGT]at hc;subst hc;exact⟨⟨.inr (.inr ⟨rfl,G9,by show(Ac v p).1≤_;omega⟩),hw.linB (by omega) (by have :=h.2.2.2;omega)⟩,hw.1⟩
theorem cC(h:pieceN p n)(hv:(v:Int)<n)(hl:(Ac v p).2=0){d:Nat}(hd:d≤512):(DJ v p (n.toNat-1) (Ac v p).1 d).length≤204800∧∀q∈DJ v p (n.toNat-1) (Ac v p).1 d,KY (n.toNat-1) q:=by
 unfold DJ;split;·refine⟨by simp;omega,λq hq=>?_⟩;simp only[ZGt,ZH5]at hq;obtain⟨j,hj,rfl⟩:=hq;exact bT h hv hl (U0 (by omega)) false
 ·refine⟨?_,λq hq=>?_⟩
  ·have h2:=Ov (g:=λc=>(List.range d).map λj=>CQ v p (Ac v p).1 (Dx v (Ac v p).1 c (C7 v p) j) true) (k:=512) (l:=I7 v p) λx hx=>by simp;omega
   have h3:(I7 v p).length≤(AK v p).length:=ZGf _ _;have h4:(AK v p).length≤p.length:=ZGf _ _;have :=h.1;have :=ZIE (show(I7 v p).length≤400 by omega) (ZGR 512);omega
  ·simp only[ZJY,ZGt,ZH5]at hq;obtain⟨c,hc,j,hj,rfl⟩:=hq;have By:=(List.mem_filter.1 hc).1;obtain⟨_,f1,f2,_⟩:=KV hl By;exact bT h hv hl (Zj (h.c (Ck.1 By).1) hv ⟨f1,f2⟩ (by omega)) true
end
theorem iJ(v:Nat)(p:List O):Eh v p=-1∨0≤Eh v p∧(Eh v p).toNat<p.length∧Z v (p.getD (Eh v p).toNat U)≠0∧(p.getD (Eh v p).toNat U).1=1:=by
 unfold Eh;have key:∀(l:List Nat)(e:Int),(∀i∈l,i<p.length)→e=-1∨0≤e∧e.toNat<p.length∧Z v (p.getD e.toNat U)≠0∧(p.getD e.toNat U).1=1→l.foldl (JL v p) e=-1∨0≤l.foldl (JL v p) e∧(l.foldl (JL v p) e).toNat<p.length∧Z v (p.getD (l.foldl (JL v p) e).toNat U)≠0∧(p.getD (l.foldl (JL v p) e).toNat U).1=1:=by intro l;induction l with|nil=>exact λe _ h=>h|cons i l ih=>
  refine λe hl h=>ih _ (λj hj=>hl j (ZGK _ hj)) ?_;unfold JL;split;·rename_i hc;exact .inr ⟨by omega,by simpa using hl i (by simp),by simpa using hc.1,by simpa using hc.2.1⟩
  ·exact h
 exact key _ _ (λi hi=>List.mem_range.1 hi) (.inl rfl)
theorem sM{p:List O}{n:Int}{v:Nat}(h:pieceN p n)(hv:(v:Int)<n){l:List (List O)}(hs:Dq p n.toNat v=some l):l.length≤204800∧∀q∈l,KY (n.toNat-1) q:=by
 unfold Dq at hs;split at hs
 ·rename_i he;cases hs;rcases iJ v p with h1|⟨_,h2,h3,_⟩;·omega
  ·exact⟨by simp,λq hq=>by rw[List.mem_singleton.1 hq];exact bI h hv h2 h3⟩
 ·split at hs;·cases hs;exact⟨by simp,λq hq=>by rw[List.mem_singleton.1 hq];exact⟨by have :=LO (v:=v) (p:=p);have :=h.1;omega,Ta h hv⟩⟩
  ·split at hs;·cases hs;exact⟨by simp,λq hq=>by rw[List.mem_singleton.1 hq];exact Z1 h hv⟩
   ·split at hs;·cases hs
    ·rename_i hl;split at hs;·cases hs
     ·rename_i hd;cases hs;have hl:(Ac v p).2=0:=by simpa using hl
      have hd:(Ce v p (Ac v p).1).2=0:=by simpa using hd
      have :=Uh hd;exact cC h hv hl (by omega)
theorem OI{p:List O}{n v:Int}(h:pieceN p n)(CY:0≤v)(hv:v<n)(h0:(BE p n v).2=0):PD (n.toNat-1) (BE p n v).1∧Nm (BE p n v).1∧∃l,Dq p n.toNat v.toNat=some l∧Bg l=some (BE p n v).1:=by
 unfold BE at h0⊢;rcases CN (Dq p n.toNat v.toNat)with e|⟨l,e⟩;·rw[e]at h0;cases h0
 ·simp only[e]at h0⊢;unfold GN at h0⊢;rcases CN (Bg l)with e2|⟨out,e2⟩;·rw[e2]at h0;cases h0
  ·simp only[e2];have hg:=sM h (v:=v.toNat) (by omega) e;obtain⟨k1,k2⟩:=PD.of_tid (λq hq=>(hg.2 q hq).D) e2;exact⟨k1,k2,l,rfl,e2⟩
theorem PD.pieceN{n:Nat}{l:List (List O)}(h:PD n l)(hn:n≤12){q:List O}(hq:q∈l):pieceN q (n:Int):=⟨by have :=(h.1.2 q hq).1;omega,λc hc=>⟨(h.1.2 q hq).2 c hc,by rw[h.2 q hq c hc]⟩,by omega,by omega⟩
end
def D0.wp(x0:List O)(x1:List O)(x2:Int)(Q:List (List O)×Int→Prop):Prop:=let v18:=List.length ([]:List O);Lp (σ:=Int×List Int) (λy4 R4=>let v0:=x0.getD y4.1.toNat U;let v1:=v0.2.2.1.getD x2.toNat 0;let v2:=[BV.fn (v1,())];cond (decide (y4.1<x0.length)) ((0≤y4.1∧y4.1<x0.length)∧(0≤x2∧x2<v0.2.2.1.length)∧cond (v1 !=0) ((0≤x2∧x2<v0.2.2.1.length)∧BV.pre (v1,())∧((y4.2.length+v2.length)*8≤140737488355328∧y4.2.length+v2.length≤9223372036854775807)∧AA .i64 (y4.1+1)∧R4 ( y4.1+1,y4.2++v2)) (AA .i64 (y4.1+1)∧R4 ( y4.1+1,y4.2))) (Dc.pre (y4.2,())∧cond ((Dc.fn (y4.2,())).2 !=0) (Q (([]:List (List O)),3)) (Lp (σ:=Int×Int×Int×Int×List Int×List O) (λy6 R6=>let v4:=x0.getD y6.1.toNat U;let v5:=v4.2.2.1.getD x2.toNat 0;let v6:=Int.tdiv (Dc.fn (y4.2,())).1 (BV.fn (v5,()));let v7:=Int.tdiv v5 (BV.fn (v5,()));let v8:=BY.fn (v6,(v4.2.2,(0,(v4.2.2,()))));let v9:=y6.2.2.2.2.2.length;let v10:=List.set v8.1 x2.toNat v7;let v11:=[(v4.1,( v4.2.1*v6,(v10,v8.2)))];let v12:=y6.2.2.2.2.1.length;let v13:=List.length [v4.2.1*v6];let v14:=List.replicate y6.2.1.toNat 0;let v16:=[(2,((Dc.fn (y4.2,())).1,( List.set v14 x2.toNat 1,0)))];let v17:=Dc.fn (y6.2.2.2.2.1,());let v19:=List.length (y6.2.2.2.2.2++v16);cond (decide (y6.1<x0.length)) ((0≤y6.1∧y6.1<x0.length)∧(0≤x2∧x2<v4.2.2.1.length)∧cond (v5==0) (AA .i64 (y6.1+1)∧R6 ( y6.1+1,y6.2)) (BV.pre (v5,())∧(BV.fn (v5,())≠0∧AA .i64 v6)∧AA .i64 (v4.2.1*v6)∧BY.pre (v6,(v4.2.2,(0,(v4.2.2,()))))∧BV.pre (v5,())∧(BV.fn (v5,())≠0∧AA .i64 v7)∧(0≤x2∧x2<v8.1.length)∧Int.toNat x2<v8.1.length∧((v9+v11.length)*48≤140737488355328∧v9+v11.length≤9223372036854775807)∧cond (v4.1==2) (((v12+v13)*8≤140737488355328∧v12+v13≤9223372036854775807)∧AA .i64 (y6.1+1)∧R6 ( y6.1+1,(v10.length,(y6.2.2.1,(y6.2.2.2.1,( y6.2.2.2.2.1++[v4.2.1*v6],y6.2.2.2.2.2++v11)))))) (cond (decide (0<v5)) (AA .i64 (y6.2.2.1+1)∧AA .i64 (y6.1+1)∧R6 ( y6.1+1,(v10.length,( y6.2.2.1+1,(y6.2.2.2.1,(y6.2.2.2.2.1,y6.2.2.2.2.2++v11)))))) (AA .i64 (y6.2.2.2.1+1)∧AA .i64 (y6.1+1)∧R6 ( y6.1+1,(v10.length,(y6.2.2.1,( y6.2.2.2.1+1,(y6.2.2.2.2.1,y6.2.2.2.2.2++v11))))))))) ((0≤y6.2.1∧y6.2.1≤y6.2.1∧y6.2.1*((8:Nat):Int)≤140737488355328∧y6.2.1≤9223372036854775807)∧(0≤x2∧x2<v14.length)∧Int.toNat x2<v14.length∧((v9+v16.length)*48≤140737488355328∧v9+v16.length≤9223372036854775807)∧Dc.pre (y6.2.2.2.2.1,())∧cond (v17.2 !=0) (Q (([]:List (List O)),3)) (( ! y6.2.2.1==0=true→(! y6.2.2.1==0)=true∧True)∧((y6.2.2.1==0)=false→(! y6.2.2.1==0)=true)∧cond ( y6.2.2.1==0||y6.2.2.2.1==0) (Lp (σ:=Int×List (List O)) (λy8 R8=>let v21:=Eb.fn ( y6.2.1-1,(y8.1,()));cond (decide (y8.1<v17.1)) (((v18+x1.length)*48≤140737488355328∧v18+x1.length≤9223372036854775807)∧Lp (σ:=Int×List O) (λy10 R10=>let v20:=List.getD (y6.2.2.2.2.2++v16) y10.1.toNat U;let v22:=DH.fn (v20,(x2,(1,(1,(v21,())))));cond (decide (y10.1<((v19:Nat):Int))) ((0≤y10.1∧y10.1<((v19:Nat):Int))∧Int.toNat y10.1<v19∧cond (v20.1==2) (AA .i64 (y6.2.1-1)∧Eb.pre ( y6.2.1-1,(y8.1,()))∧DH.pre (v20,(x2,(1,(1,(v21,())))))∧((y10.2.length+List.length [v22])*48≤140737488355328∧y10.2.length+List.length [v22]≤9223372036854775807)∧AA .i64 (y10.1+1)∧R10 ( y10.1+1,y10.2++[v22])) (AA .i64 (y10.1+1)∧R10 ( y10.1+1,y10.2))) (((y8.2.length+List.length [y10.2])*24≤140737488355328∧y8.2.length+List.length [y10.2]≤9223372036854775807)∧AA .i64 (y8.1+1)∧R8 ( y8.1+1,y8.2++[y10.2]))) (0,([]:List O)++x1)) (Ct.pre (y8.2,())∧Q (Ct.fn (y8.2,())))) (0,([]:List (List O)))) (cond (decide (y6.2.2.2.1<y6.2.2.1)) (Lp (σ:=Int×List (List O)) (λy8 R8=>let v24:=List.getD (y6.2.2.2.2.2++v16) y8.1.toNat U;let v26:=CD.fn (v24.2.2,(x2,()));cond (decide (y8.1<((v19:Nat):Int))) ((0≤y8.1∧y8.1<((v19:Nat):Int))∧Int.toNat y8.1<v19∧( ! v24.1==2=true→! v24.1==2=true∧True)∧( ! v24.1==2=true→! v24.1==2=true∧True)∧( ! v24.1==2=true→! v24.1==2=true∧! v24.1==2=true∧0≤x2∧x2<v24.2.2.1.length)∧( ! v24.1==2=true→(! v24.1==2)=true∧True)∧( ! v24.1==2=true→(! v24.1==2)=true∧(! v24.1==2)=true∧True)∧((v24.1==2)=false→(! v24.1==2)=true)∧cond ( v24.1==2||v24.2.2.1.getD x2.toNat 0 !=-1) (AA .i64 (y8.1+1)∧R8 ( y8.1+1,y8.2)) (CD.pre (v24.2.2,(x2,()))∧Lp (σ:=Int×List (List O)) (λy10 R10=>let v27:=Eb.fn ( y6.2.1-1,(y10.1,()));let v28:=BY.fn (- -1,(v26,(-1,(v27,()))));cond (decide (y10.1<v17.1)) (AA .i64 (- -1)∧AA .i64 (y6.2.1-1)∧Eb.pre ( y6.2.1-1,(y10.1,()))∧BY.pre (- -1,(v26,(-1,(v27,()))))∧((v18+x1.length)*48≤140737488355328∧v18+x1.length≤9223372036854775807)∧Lp (σ:=Int×( List Int×Int)×List O×List Int×Int) (λy12 R12=>let v29:=List.getD (y6.2.2.2.2.2++v16) y12.1.toNat U;let v30:=DH.fn (v29,(x2,(1,(1,(y12.2.2.2,())))));cond (decide (y12.1<((v19:Nat):Int))) ((0≤y12.1∧y12.1<((v19:Nat):Int))∧Int.toNat y12.1<v19∧DH.pre (v29,(x2,(1,(1,(y12.2.2.2,())))))∧((y12.2.2.1.length+List.length [v30])*48≤140737488355328∧y12.2.2.1.length+List.length [v30]≤9223372036854775807)∧AA .i64 (y12.1+1)∧R12 ( y12.1+1,(y12.2.1,( y12.2.2.1++[v30],y12.2.2.2)))) (((y10.2.length+List.length [y12.2.2.1])*24≤140737488355328∧y10.2.length+List.length [y12.2.2.1]≤9223372036854775807)∧AA .i64 (y10.1+1)∧R10 ( y10.1+1,y10.2++[y12.2.2.1]))) (0,(v28,(([]:List O)++x1,v28)))) (AA .i64 (y8.1+1)∧R8 ( y8.1+1,y10.2))) (0,y8.2))) (Ct.pre (y8.2,())∧Q (Ct.fn (y8.2,())))) (0,([]:List (List O)))) (Lp (σ:=Int×List (List O)) (λy8 R8=>let v24:=List.getD (y6.2.2.2.2.2++v16) y8.1.toNat U;let v26:=CD.fn (v24.2.2,(x2,()));cond (decide (y8.1<((v19:Nat):Int))) ((0≤y8.1∧y8.1<((v19:Nat):Int))∧Int.toNat y8.1<v19∧((! v24.1==2)=true→! v24.1==2=true∧True)∧((! v24.1==2)=true→! v24.1==2=true∧True)∧((! v24.1==2)=true→! v24.1==2=true∧! v24.1==2=true∧0≤x2∧x2<v24.2.2.1.length)∧( ! v24.1==2=true→! v24.1==2=true∧True)∧( ! v24.1==2=true→! v24.1==2=true∧! v24.1==2=true∧True)∧((v24.1==2)=false→! v24.1==2=true)∧cond ( v24.1==2||v24.2.2.1.getD x2.toNat 0 !=1) (AA .i64 (y8.1+1)∧R8 ( y8.1+1,y8.2)) (CD.pre (v24.2.2,(x2,()))∧Lp (σ:=Int×List (List O)) (λy10 R10=>let v27:=Eb.fn ( y6.2.1-1,(y10.1,()));let v31:=BY.fn (-1,(v26,(1,(v27,()))));cond (decide (y10.1<v17.1)) (AA .i64 (-1)∧AA .i64 (y6.2.1-1)∧Eb.pre ( y6.2.1-1,(y10.1,()))∧BY.pre (-1,(v26,(1,(v27,()))))∧((v18+x1.length)*48≤140737488355328∧v18+x1.length≤9223372036854775807)∧Lp (σ:=Int×( List Int×Int)×List O×List Int×Int) (λy12 R12=>let v29:=List.getD (y6.2.2.2.2.2++v16) y12.1.toNat U;let v30:=DH.fn (v29,(x2,(1,(1,(y12.2.2.2,())))));cond (decide (y12.1<((v19:Nat):Int))) ((0≤y12.1∧y12.1<((v19:Nat):Int))∧Int.toNat y12.1<v19∧DH.pre (v29,(x2,(1,(1,(y12.2.2.2,())))))∧((y12.2.2.1.length+List.length [v30])*48≤140737488355328∧y12.2.2.1.length+List.length [v30]≤9223372036854775807)∧AA .i64 (y12.1+1)∧R12 ( y12.1+1,(y12.2.1,( y12.2.2.1++[v30],y12.2.2.2)))) (((y10.2.length+List.length [y12.2.2.1])*24≤140737488355328∧y10.2.length+List.length [y12.2.2.1]≤9223372036854775807)∧AA .i64 (y10.1+1)∧R10 ( y10.1+1,y10.2++[y12.2.2.1]))) (0,(v31,(([]:List O)++x1,v31)))) (AA .i64 (y8.1+1)∧R8 ( y8.1+1,y10.2))) (0,y8.2))) (Ct.pre (y8.2,())∧Q (Ct.fn (y8.2,())))) (0,([]:List (List O)))))))) (0,(0,(0,(0,([(Dc.fn (y4.2,())).1],([]:List O))))))))) (0,([]:List Int))
def EO.wp(x0:List O)(x1:Int)(x2:Int)(Q:List (List O)×Int→Prop):Prop:=Lp (σ:=Int×Int×List O×List O×List O×List O) (λy4 R4=>let v0:=x0.getD y4.1.toNat U;let v1:=v0.2.2.1.getD x2.toNat 0;let v3:=[(v0.1,(v0.2.1,CD.fn (v0.2.2,(x2,()))))];let v4:=x0.getD y4.2.1.toNat U;let v5:=v4.2.2.1.getD x2.toNat 0;let v6:=y4.2.2.2.2.1.length;let v7:=y4.2.2.2.2.2.length;let v8:=Fo.fn (x0,(y4.2.1,(x2,())));cond (decide (y4.1<x0.length)) ((0≤y4.1∧y4.1<x0.length)∧(0≤x2∧x2<v0.2.2.1.length)∧cond (v1==0) (CD.pre (v0.2.2,(x2,()))∧((y4.2.2.1.length+v3.length)*48≤140737488355328∧y4.2.2.1.length+v3.length≤9223372036854775807)∧AA .i64 (y4.1+1)∧R4 ( y4.1+1,(y4.2.1,( y4.2.2.1++v3,y4.2.2.2)))) (cond (v0.1==1) (((! decide (y4.2.1<0))=true→(! decide (y4.2.1<0))=true∧BV.pre (v1,()))∧((! decide (y4.2.1<0))=true→(! decide (y4.2.1<0))=true∧(! decide (y4.2.1<0))=true∧0≤y4.2.1∧y4.2.1<x0.length)∧((! decide (y4.2.1<0))=true→(! decide (y4.2.1<0))=true∧True)∧((! decide (y4.2.1<0))=true→(! decide (y4.2.1<0))=true∧True)∧((! decide (y4.2.1<0))=true→(! decide (y4.2.1<0))=true∧True)∧((! decide (y4.2.1<0))=true→(! decide (y4.2.1<0))=true∧(! decide (y4.2.1<0))=true∧0≤x2∧x2<v4.2.2.1.length)∧((! decide (y4.2.1<0))=true→(! decide (y4.2.1<0))=true∧True)∧((! decide (y4.2.1<0))=true→(! decide (y4.2.1<0))=true∧BV.pre (v5,()))∧((! decide (y4.2.1<0))=true→(! decide (y4.2.1<0))=true∧(! decide (y4.2.1<0))=true∧True)∧(decide (y4.2.1<0)=false→(! decide (y4.2.1<0))=true)∧cond (decide (y4.2.1<0)||decide (BV.fn (v1,())<BV.fn (v5,()))) (AA .i64 (y4.1+1)∧R4 ( y4.1+1,(y4.1,y4.2.2))) (AA .i64 (y4.1+1)∧R4 ( y4.1+1,y4.2))) (cond (v0.1==2) (((y4.2.2.2.1.length+List.length [v0])*48≤140737488355328∧y4.2.2.2.1.length+List.length [v0]≤9223372036854775807)∧AA .i64 (y4.1+1)∧R4 ( y4.1+1,(y4.2.1,(y4.2.2.1,( y4.2.2.2.1++[v0],y4.2.2.2.2))))) (cond (decide (0<v1)) (((v6+List.length [v0])*48≤140737488355328∧v6+List.length [v0]≤9223372036854775807)∧AA .i64 (y4.1+1)∧R4 ( y4.1+1,(y4.2.1,(y4.2.2.1,(y4.2.2.2.1,( y4.2.2.2.2.1++[v0],y4.2.2.2.2.2)))))) (((v7+List.length [v0])*48≤140737488355328∧v7+List.length [v0]≤9223372036854775807)∧AA .i64 (y4.1+1)∧R4 ( y4.1+1,(y4.2.1,(y4.2.2.1,(y4.2.2.2.1,(y4.2.2.2.2.1,y4.2.2.2.2.2++[v0])))))))))) (cond (decide (0≤y4.2.1)) (Fo.pre (x0,(y4.2.1,(x2,())))∧Ct.pre ([v8],())∧Q (Ct.fn ([v8],()))) ((((y4.2.2.2.1.length:Int)==0)=true→((y4.2.2.2.1.length:Int)==0)=true∧True)∧(((y4.2.2.2.1.length:Int)==0)=true→((y4.2.2.2.1.length:Int)==0)=true∧True)∧(((y4.2.2.2.1.length:Int)==0)=true→((y4.2.2.2.1.length:Int)==0)=true∧True)∧(((y4.2.2.2.1.length:Int)==0&&!((v6:Nat):Int)==0)=true→((y4.2.2.2.1.length:Int)==0&&!((v6:Nat):Int)==0)=true∧True)∧(((y4.2.2.2.1.length:Int)==0&&!((v6:Nat):Int)==0)=true→((y4.2.2.2.1.length:Int)==0&&!((v6:Nat):Int)==0)=true∧True)∧(((y4.2.2.2.1.length:Int)==0)=true→((y4.2.2.2.1.length:Int)==0)=true∧((((v6:Nat):Int)==0)=false→((y4.2.2.2.1.length:Int)==0&&!((v6:Nat):Int)==0)=true))∧(((y4.2.2.2.1.length:Int)==0)=true→((y4.2.2.2.1.length:Int)==0)=true)∧cond ((y4.2.2.2.1.length:Int)==0&&(((v6:Nat):Int)==0||((v7:Nat):Int)==0)) (Ct.pre ([y4.2.2.1],())∧Q (Ct.fn ([y4.2.2.1],()))) (Lp (λy6 R6=>let v11:=y4.2.2.2.2.1.getD y6.1.toNat U;let v12:=v11.2.2.1.getD x2.toNat 0;cond (decide (y6.1<((v6:Nat):Int))) ((0≤y6.1∧y6.1<((v6:Nat):Int))∧Int.toNat y6.1<v6∧Lp (λy8 R8=>let v13:=y4.2.2.2.2.2.getD y8.1.toNat U;cond (decide (y8.1<((v7:Nat):Int))) ((0≤y8.1∧y8.1<((v7:Nat):Int))∧Int.toNat y8.1<v7∧(y8.2=true→y8.2=true∧True)∧(y8.2=true→y8.2=true∧True)∧(y8.2=true→y8.2=true∧y8.2=true∧0≤x2∧x2<v11.2.2.1.length)∧(y8.2=true→y8.2=true∧True)∧(y8.2=true→y8.2=true∧True)∧(y8.2=true→y8.2=true∧True)∧((y8.2&&! v12==1)=true→(y8.2&&! v12==1)=true∧True)∧((y8.2&&! v12==1)=true→(y8.2&&! v12==1)=true∧True)∧((y8.2&&! v12==1)=true→(y8.2&&! v12==1)=true∧(y8.2&&! v12==1)=true∧0≤x2∧x2<v13.2.2.1.length)∧((y8.2&&! v12==1)=true→(y8.2&&! v12==1)=true∧True)∧((y8.2&&! v12==1)=true→(y8.2&&! v12==1)=true∧True)∧(y8.2=true→y8.2=true∧((v12==1)=false→(y8.2&&! v12==1)=true))∧(y8.2=true→y8.2=true)∧AA .i64 (y8.1+1)∧R8 ( y8.1+1,y8.2&&( v12==1||v13.2.2.1.getD x2.toNat 0==-1))) (AA .i64 (y6.1+1)∧R6 ( y6.1+1,y8.2))) (0,y6.2)) (cond y6.2 (Lp (σ:=Int×List O) (λy8 R8=>let v15:=y4.2.2.2.2.1.getD y8.1.toNat U;let v18:=v15.2.2.1.getD x2.toNat 0;let v20:=CD.fn (v15.2.2,(x2,()));cond (decide (y8.1<((v6:Nat):Int))) ((0≤y8.1∧y8.1<((v6:Nat):Int))∧Int.toNat y8.1<v6∧Lp (σ:=Int×List O) (λy10 R10=>let v16:=y4.2.2.2.2.2.getD y10.1.toNat U;let v17:=v16.2.2.1.getD x2.toNat 0;let v19:=CD.fn (v16.2.2,(x2,()));let v22:=[(0,(0,BY.fn (v18,(v19,(-v17,(v20,()))))))];cond (decide (y10.1<((v7:Nat):Int))) ((0≤y10.1∧y10.1<((v7:Nat):Int))∧Int.toNat y10.1<v7∧(0≤x2∧x2<v15.2.2.1.length)∧CD.pre (v16.2.2,(x2,()))∧(0≤x2∧x2<v16.2.2.1.length)∧AA .i64 (-v17)∧CD.pre (v15.2.2,(x2,()))∧BY.pre (v18,(v19,(-v17,(v20,()))))∧((y10.2.length+v22.length)*48≤140737488355328∧y10.2.length+v22.length≤9223372036854775807)∧AA .i64 (y10.1+1)∧R10 ( y10.1+1,y10.2++v22)) (AA .i64 (y8.1+1)∧R8 ( y8.1+1,y10.2))) (0,y8.2)) (Ct.pre ([y8.2],())∧Q (Ct.fn ([y8.2],())))) (0,y4.2.2.1)) (D0.pre (x0,(y4.2.2.1,(x2,())))∧Q (D0.fn (x0,(y4.2.2.1,(x2,()))))))) (0,(y4.2.2.2.1.length:Int)==0))))) (0,(-1,(([]:List O),(([]:List O),(([]:List O),([]:List O))))))
def H4(v:Nat)(l:Int)(c:O):O:=(c.1,c.2.1*Ad v l c,((BD (Ad v l c) c.2.2 0 c.2.2).1.set v ((Z v c).tdiv (AR (Z v c))),(BD (Ad v l c) c.2.2 0 c.2.2).2))
theorem N2(f:Int)(l:AN):BD f l 0 l=(l.1.map λn=>f*n,f*l.2):=by
 unfold BD;congr 1;·apply ZHR (by simp);intro i h1 h2;simp only[ZGM,ZG4]at h1;simp only[ZH9,ZHz];rw[A6 h1];omega
 ·omega
theorem gA{l:List Int}{i:Nat}{x:Int}:Az (l.set i x) i=Az l i:=by unfold Az;rw[List.take_set_of_le (ZGR i),List.drop_set_of_lt (ZIq i)]
theorem yX{l:List Int}{i:Nat}{g:Int→Int}:Az (l.map g) i=(Az l i).map g:=by unfold Az;rw[ZGp,List.map_take,ZKo]
theorem yY{n i:Nat}{x:Int}(h:i<n):Az (List.replicate n x) i=List.replicate (n-1) x:=by unfold Az;rw[List.take_replicate,List.drop_replicate,List.replicate_append_replicate];congr 1;omega
theorem bF{a:Int}(h:a≠0):a.tdiv (AR a)=C3 a:=by
 unfold C3 AR;split;·rw[show max a (-a)=-a by omega,ZKA,Int.tdiv_self h]
 ·rw[show max a (-a)=a by omega,Int.tdiv_self h]
theorem aV(v:Nat)(l:Int)(c:O):AI v (H4 v l c)=Dp v l c:=by unfold AI H4 Dp;simp only[N2,gA,yX];rfl
theorem WV{v:Nat}{l:Int}{c:O}(h:v<c.2.2.1.length)(h0:Z v c≠0):Z v (H4 v l c)=C3 (Z v c):=by show List.getD (List.set (BD (Ad v l c) c.2.2 0 c.2.2).1 v ((Z v c).tdiv (AR (Z v c)))) v 0=_;rw[N2,ZGG,ZJ7];simp[h,bF h0]
def Ji(N v:Nat)(l:Int):O:=(2,l,(List.replicate N (0:Int)).set v 1,0)
theorem rV{N v:Nat}{l:Int}(h:v<N):AI v (Ji N v l)=(List.replicate (N-1) 0,0):=by unfold AI Ji;simp only[gA,yY h]
theorem eZ{N v:Nat}{l:Int}(h:v<N):Z v (Ji N v l)=1:=by show List.getD (List.set (List.replicate N (0:Int)) v 1) v 0=1;rw[ZGG,ZJ7];simp[h]
theorem ZCl{k:Nat}{w:AN}(h:w.1.length=k):BD 1 (List.replicate k 0,0) 1 w=w:=by
 obtain⟨C,K⟩:=w;unfold BD;congr 1;·apply ZHR (by simpa using h.symm);intro i h1 h2;simp only[ZGM,ZG4,ZGj]at h1;simp only[ZH9,ZHz];rw[A6 (by simpa using h1),A6 h2];simp
 ·simp
def KK(v:Nat)(w:AN)(c:O):O:=(c.1,c.2.1*1,BD 1 (AI v c) (Z v c*1) w)
theorem ZDP{v:Nat}{l:Int}{w:AN}{c:O}(h:v<c.2.2.1.length)(h0:Z v c≠0):KK v w (H4 v l c)=Mu v l w c:=by unfold KK Mu;rw[aV,WV h h0,ZJx,ZJx];rfl
theorem ZDQ{N v:Nat}{l:Int}{w:AN}(h:v<N)(hw:w.1.length=N-1):KK v w (Ji N v l)=(2,l,w):=by unfold KK;rw[rV h,eZ h,ZJx,ZJx,ZCl hw];rfl
theorem ZDR{p:List O}{n:Int}{v:Nat}(h:pieceN p n)(hv:(v:Int)<n){l:Int}{w:AN}(hw:w.1.length=n.toNat-1)(all:Bool):Ba v p++(((AK v p).map (H4 v l)++[Ji n.toNat v l]).filter λc=>all||decide (c.1=2)).map (KK v w)=CQ v p l w all:=by
 unfold CQ;rw[ZG9,ZGp,←ZGy];congr 1;·congr 1;rw[ZJj,ZHP];have e:(λc:O=>all||decide (c.1=2))∘H4 v l=λc:O=>all||decide (c.1=2):=rfl;rw[e];apply ZHA;intro c hc;have By:=Ck.1 (List.mem_filter.1 hc).1;have :=(h.c By.1).2;exact ZDP (by omega) By.2
 ·rw[ZHJ (by simp[Ji]),ZI0];simp only[ZGi,ZIA];rw[ZDQ (by omega) hw]
theorem iX{α β:Type}(f:α→Bool)(g:α→List β):∀l:List α,(l.flatMap λx=>if f x=true then g x else[])=(l.filter f).flatMap g
 |[]=>rfl|x::l=>by
  rw[ZJT,iX f g l];by_cases hf:f x=true;·rw[ZGE hf,ZHJ hf,ZJT]
  ·rw[ZGA hf,ZHI hf,ZG8]
theorem qY(v:Nat)(q:List O)(c:O):AK v (q++[c])=AK v q++if Z v c≠0 then[c]else[]:=by unfold AK;rw[ZG9];congr 1;by_cases h:Z v c≠0<;>simp[h]
theorem ZCa(v:Nat)(q:List O)(c:O):(Ak v (q++[c])).length=(Ak v q).length+if Z v c≠0∧c.1≠1∧c.1≠2∧0<Z v c then 1 else 0:=by
 unfold Ak;rw[ZG9,ZGI];congr 1;by_cases h:Z v c≠0∧c.1≠1∧c.1≠2∧0<Z v c;·rw[ZGE h,ZHJ (by simpa using h)];rfl
 ·rw[ZGA h,ZHI (by simpa using h)];rfl
theorem ZE0(v:Nat)(q:List O)(c:O):(Aj v (q++[c])).length=(Aj v q).length+if Z v c≠0∧c.1≠1∧c.1≠2∧¬0<Z v c then 1 else 0:=by
 unfold Aj;rw[ZG9,ZGI];congr 1;by_cases h:Z v c≠0∧c.1≠1∧c.1≠2∧¬0<Z v c;·rw[ZGE h,ZHJ (by simpa using h)];rfl
 ·rw[ZGA h,ZHI (by simpa using h)];rfl
theorem ZE2{c:O}(h:AG c=true)(h2:c.1=2):1≤c.2.1∧c.2.1≤512:=by unfold AG at h;rw[ZGA (by omega),ZGE h2]at h;simp only[ZGW,ZGw]at h;omega
theorem bD{c:O}{n:Int}{v:Nat}{l:Int}(h:AG c=true∧(c.2.2.1.length:Int)=n)(hv:(v:Int)<n)(hn:n≤12)(hf:1≤Ad v l c∧Ad v l c≤512)(h0:Z v c≠0):Uq n.toNat (H4 v l c):=by
 have hM:-512≤c.2.1∧c.2.1≤512:=by
  rcases Vk h.1 with h1|h1|⟨h1,_,_⟩;·have :=h.1;unfold AG at this;rw[ZGE (.inl h1)]at this;simp only[ZGW,ZIF]at this;omega
  ·have :=h.1;unfold AG at this;rw[ZGE (.inr h1)]at this;simp only[ZGW,ZIF]at this;omega
  ·have :=ZE2 h.1 h1;omega
 have hm:=Ln (n:=512) (m:=512) (by omega) (by omega) hM.1 hM.2 (show-512≤Ad v l c by omega) hf.2;have hl:=Bo.b (AG.lin h.1);have key:∀x:Int,-1048576≤x∧x≤1048576→-536870912≤Ad v l c*x∧Ad v l c*x≤536870912:=λx hx=>Ln (n:=512) (m:=1048576) (by omega) (by omega) (by omega) hf.2 hx.1 hx.2;have hlen:(H4 v l c).2.2.1.length=n.toNat:=by show((BD (Ad v l c) c.2.2 0 c.2.2).1.set v _).length=_;rw[N2,ZHr,ZGM];omega
 refine⟨by show-1048576≤c.2.1*Ad v l c∧c.2.1*Ad v l c≤1048576;omega,⟨by show(H4 v l c).2.2.1.length≤_;omega,λx hx=>?_,?_⟩,hlen⟩
 ·have hx':x∈(BD (Ad v l c) c.2.2 0 c.2.2).1.set v ((Z v c).tdiv (AR (Z v c))):=hx;rw[bF h0,N2]at hx';rcases ZJN hx' with hx'|rfl;·simp only[ZGt]at hx';obtain⟨y,hy,rfl⟩:=hx';have :=key y (hl.2.1 y hy);omega
  ·unfold C3;split<;>omega
 ·show-4294967296≤(BD (Ad v l c) c.2.2 0 c.2.2).2∧(BD (Ad v l c) c.2.2 0 c.2.2).2≤4294967296;rw[N2];have :=key _ hl.2.2;simp only;omega
theorem ZE6{N v:Nat}{l:Int}(hN:N≤12)(hl:1≤l∧l≤512):Uq N (Ji N v l):=by
 refine⟨by show-1048576≤l∧l≤1048576;omega,⟨by show((List.replicate N (0:Int)).set v 1).length≤_;rw[ZHr,ZGj];omega,λx hx=>?_,by show(-4294967296:Int)≤0∧(0:Int)≤4294967296;omega⟩,by show((List.replicate N (0:Int)).set v 1).length=N;rw[ZHr,ZGj]⟩;have hx':x∈(List.replicate N (0:Int)).set v 1:=hx;rcases ZJN hx' with hx'|rfl;·rw[(List.mem_replicate.1 hx').2];omega
 ·omega
theorem aF{β:Type}(g:Nat→β)(j:Nat):(List.range (j+1)).map g=(List.range j).map g++[g j]:=by rw[ZIT,ZGp];rfl
theorem D0.spec(p free:List O)(v:Int)(hp:D0.pre (p,free,v,())):D0.wp p free v λr=>r=D0.fn (p,free,v,()):=by
 obtain⟨⟨n,hN,CY,Bk⟩,PE,hne,RA⟩:=hp;simp only at hN CY Bk PE hne RA;obtain⟨V,rfl⟩:∃V:Nat,v=(V:Int):=⟨v.toNat,by omega⟩;simp only[ZGD]at PE hne RA;have Nd:=hN.2.2.2;have EH:=hN.1;have Tm:V<n.toNat:=by omega
 have hfn:D0.fn (p,free,(V:Int),())=SH p free V:=rfl;have RP:∀l:AN,CD.fn (l,(V:Int),())=(Az l.1 V,l.2):=λ_=>rfl;have Ys:∀c w,DH.fn (c,(V:Int),1,1,w,())=KK V w c:=λ_ _=>rfl;have GF:∀a l b m,BY.fn (a,l,b,m,())=BD a l b m:=λ_ _ _ _=>rfl;have Ye:∀l,Ct.fn (l,())=GN l:=λ_=>rfl;have hnu:∀a b,Eb.fn (a,b,())=(List.replicate a.toNat 0,b):=λ_ _=>rfl;have LY:∀l,Dc.fn (l,())=DE l:=λ_=>rfl;simp only[D0.wp,hfn,BV.fn,RP,Ys,GF,Ye,hnu,LY,ZGD];have PV:∀c∈p,BV.pre (Z V c,()):=λc hc=>by have :=E7 (hN.c hc).1 V;exact⟨by show-2305843009213693952≤Z V c;omega,by show Z V c≤2305843009213693952;omega⟩
 have ZBh:(AK V p).length≤400:=ZGd (ZGf _ _) EH;refine Lp.flt p U [] (λjc=>decide (Z V jc.2≠0)) (λjc=>AR (Z V jc.2)) (by omega) (λi t R hi hi' hf Dv h1 h2=>?_) λR _=>?_
 ·have hm:=AV (d:=U) hi;simp only[ZGB hi',ZGD,ZGC];obtain⟨c,hq⟩:∃c,p.getD i U=c:=⟨_,rfl⟩;simp only[hq]at hm h1 h2⊢;have hlen:(V:Int)<(c.2.2.1.length:Int):=by have :=(hN.c hm).2;omega
  have D4:c.2.2.1.getD V 0=Z V c:=rfl;simp only[D4,ZGS,ZGu]at Dv⊢;refine⟨⟨by omega,hi'⟩,⟨by omega,hlen⟩,?_⟩;by_cases h0:Z V c=0;·rw[show(Z V c !=0)=false by simpa using h0,ZF9];exact⟨hf,h2 (by simpa using h0)⟩
  ·rw[show(Z V c !=0)=true by simpa using h0,ZGC];exact⟨⟨by omega,hlen⟩,PV c hm,⟨by simp only[ZGO];omega,by simp only[ZGO];omega⟩,hf,h1 (by simpa using h0)⟩
 simp only[ZGH,ZGQ,ZF9,ZG8];have hall:((BU U p).filter λjc=>decide (Z V jc.2≠0)).map (λjc=>AR (Z V jc.2))=(AK V p).map λc=>AR (Z V c):=P3 U p (λc=>decide (Z V c≠0)) λc=>AR (Z V c);simp only[hall];have hL:DE ((AK V p).map λc=>AR (Z V c))=Ac V p:=rfl;simp only[hL];have HM:SH p free V=if(Ac V p).2≠0 then([],3)else if(Ce V p (Ac V p).1).2≠0 then([],3)else GN (DJ V p ((p.getD 0 U).2.2.1.length-1) (Ac V p).1 (Ce V p (Ac V p).1).1.toNat):=rfl;rw[HM];refine⟨λx hx=>?_,?_⟩;·obtain⟨c,hc,rfl⟩:=List.mem_map.1 hx;have :=M5 (E7 (hN.c (Ck.1 hc).1).1 V);omega
 by_cases CW:(Ac V p).2=0;rotate_left;·rw[show((Ac V p).2 !=0)=true by simpa using CW,ZGC,ZGE CW]
 rw[show((Ac V p).2 !=0)=false by simpa using CW,ZF9,ZGA (by simpa using CW)];obtain⟨_,EJ,T8⟩:=Mb CW;have JT:∀c∈AK V p,1≤Ad V (Ac V p).1 c∧Ad V (Ac V p).1 c≤512:=λc hc=>⟨(KV CW hc).2.1,(KV CW hc).2.2.1⟩;obtain⟨l,hl⟩:∃l,(Ac V p).1=l:=⟨_,rfl⟩;simp only[hl]at EJ T8 JT⊢;refine Lp.iter p.length (λi z=>z=((i:Int),if AK V (p.take i)=[]then(0:Int)else n,((Ak V (p.take i)).length:Int),((Aj V (p.take i)).length:Int),l::((AK V (p.take i)).filter λc=>decide (c.1=2)).map λc=>c.2.1*Ad V l c,(AK V (p.take i)).map (H4 V l))) (by simp[AK,Ak,Aj]) ?_;rintro i z hle rfl R1 BC;by_cases e:i<p.length
 ·have e':(i:Int)<(p.length:Int):=by omega
  have hm:=AV (d:=U) e;have A7:=BC e _ rfl;rw[H7 (d:=U) e,qY,ZCa,ZE0]at A7;simp only[ZGB e',ZGD,ZGC];obtain⟨c,hq⟩:∃c,p.getD i U=c:=⟨_,rfl⟩;simp only[hq]at hm A7⊢;have Ej:=hN.c hm;have hlen:(V:Int)<(c.2.2.1.length:Int):=by have :=Ej.2;omega
  have D4:c.2.2.1.getD V 0=Z V c:=rfl;simp only[D4];have Ci:AA IntKind.i64 ((i:Int)+1):=⟨by omega,by omega⟩;refine⟨⟨by omega,e'⟩,⟨by omega,hlen⟩,?_⟩;by_cases h0:Z V c=0;·rw[show(Z V c==0)=true by simpa using h0,ZGC];have YQ:(if Z V c≠0 then[c]else[])=([]:List O):=ZGA (by simpa using h0);have ZBN:(if Z V c≠0∧c.1≠1∧c.1≠2∧0<Z V c then 1 else 0)=0:=ZGA λh=>h.1 h0;have ZBO:(if Z V c≠0∧c.1≠1∧c.1≠2∧¬0<Z V c then 1 else 0)=0:=ZGA λh=>h.1 h0;rw[YQ,ZBN,ZBO,ZGZ]at A7;exact⟨Ci,A7⟩
  ·rw[show(Z V c==0)=false by simpa using h0,ZF9];have By:c∈AK V p:=Ck.2 ⟨hm,h0⟩;obtain⟨f1,f2⟩:=JT c By;have hab:=M5 (E7 Ej.1 V);have JO:AR (Z V c)≠0:=λh=>h0 (wG.1 h);have JW:=bD Ej (by omega) Nd ⟨f1,f2⟩ h0;have It:=RA c By;have hlq:(AK V (p.take i)).length≤i:=ZGd (ZGf _ _) (by rw[ZGP];omega);have DM:(Ak V (p.take i)).length≤i:=ZGd (ZGf _ _) (by rw[ZGP];omega);have PW:(Aj V (p.take i)).length≤i:=ZGd (ZGf _ _) (by rw[ZGP];omega);have X8:=ZGf (λc:O=>decide (c.1=2)) (AK V (p.take i));have YQ:(if Z V c≠0 then[c]else[])=[c]:=ZGE h0;rw[YQ,ZGA (show¬AK V (p.take i)++[c]=[]by simp)]at A7;have ZBH:l.tdiv (AR (Z V c))=Ad V l c:=rfl;have hscl:((c.1,c.2.1*Ad V l c,(BD (Ad V l c) c.2.2 0 c.2.2).1.set V ((Z V c).tdiv (AR (Z V c))),(BD (Ad V l c) c.2.2 0 c.2.2).2):O)=H4 V l c:=rfl;have RL:((BD (Ad V l c) c.2.2 0 c.2.2).1.set V ((Z V c).tdiv (AR (Z V c)))).length=n.toNat:=JW.2.2;have ZBa:(BD (Ad V l c) c.2.2 0 c.2.2).1.length=n.toNat:=by rw[ZHr]at RL;exact RL
   have hMf:AA IntKind.i64 (c.2.1*Ad V l c):=by have :=JW.1;have h:-1048576≤c.2.1*Ad V l c∧c.2.1*Ad V l c≤1048576:=this;exact⟨by omega,by omega⟩
   have UN:AA IntKind.i64 ((Z V c).tdiv (AR (Z V c))):=by rw[bF h0];unfold C3;split<;>exact⟨by omega,by omega⟩
   have UU:=cJ Ej.1;simp only[ZBH,hscl,RL,ZBa];refine⟨PV c hm,⟨JO,⟨by omega,by omega⟩⟩,hMf,⟨⟨by show-1048576≤Ad V l c;omega,by show Ad V l c≤1048576;omega⟩,UU,⟨by show(-1048576:Int)≤0;omega,by show(0:Int)≤1048576;omega⟩,UU,rfl⟩,PV c hm,⟨JO,UN⟩,⟨by omega,by omega⟩,by omega,⟨by simp only[ZGO,ZGM];omega,by simp only[ZGO,ZGM];omega⟩,?_⟩;rw[ZGp,ZGi,ZIA,ZG9]at A7;have Gs:((n.toNat:Nat):Int)=n:=by omega
   by_cases h2:c.1=2;·rw[show(c.1==2)=true by simpa using h2,ZGC];rw[ZGA λh=>h.2.2.1 h2,ZGA λh=>h.2.2.1 h2,ZHJ (by simpa using h2),ZI0,ZGp]at A7;refine⟨⟨by simp only[ZGL,ZGS,ZGM];omega,by simp only[ZGL,ZGS,ZGM];omega⟩,Ci,?_⟩;rw[Gs];exact A7
   ·rw[show(c.1==2)=false by simpa using h2,ZF9];rw[ZHI (by simpa using h2),ZI0,ZGZ]at A7;by_cases AU:0<Z V c;·rw[ZGB AU,ZGC];rw[ZGE ⟨h0,It,h2,AU⟩,ZGA λh=>h.2.2.2 AU]at A7;refine⟨⟨by omega,by omega⟩,Ci,?_⟩;rw[Gs];exact A7
    ·rw[ZGF AU,ZF9];rw[ZGA λh=>AU h.2.2.2,ZGE ⟨h0,It,h2,AU⟩]at A7;refine⟨⟨by omega,by omega⟩,Ci,?_⟩;rw[Gs];exact A7
 have PI:i=p.length:=by omega
 subst PI;simp only[ZGH,ZGQ,ZF9,ZGN,ZGA hne];obtain⟨N,rfl⟩:∃N:Nat,n=(N:Int):=⟨n.toNat,by omega⟩;simp only[ZGD]at Tm⊢;have hwh:(((2:Int),(l,( List.set (List.replicate N (0:Int)) V (1:Int),(0:Int)))):O)=Ji N V l:=rfl;have Iv:DE (l::((AK V p).filter λc=>decide (c.1=2)).map λc=>c.2.1*Ad V l c)=Ce V p l:=rfl;simp only[hwh,Iv,ZGj];have X8:=ZGf (λc:O=>decide (c.1=2)) (AK V p);refine⟨⟨by omega,by omega,by omega,by omega⟩,⟨by omega,by omega⟩,Tm,⟨by simp only[ZGO,ZGM];omega,by simp only[ZGO,ZGM];omega⟩,λx hx=>?_,?_⟩
 ·rcases List.mem_cons.1 hx with rfl|hx;·omega
  ·obtain⟨c,hc,rfl⟩:=List.mem_map.1 hx;obtain⟨hc,_⟩:=List.mem_filter.1 hc;obtain⟨f1,f2⟩:=JT c hc;have :=VD (SY (hN.c (Ck.1 hc).1).1) (b:=Ad V l c) (by omega);omega
 by_cases hd0:(Ce V p l).2=0;rotate_left;·rw[show((Ce V p l).2 !=0)=true by simpa using hd0,ZGC,ZGE hd0]
 rw[show((Ce V p l).2 !=0)=false by simpa using hd0,ZF9,ZGA (by simpa using hd0)];obtain⟨hd1,Tt,_,_⟩:=Uh hd0;obtain⟨d,hd⟩:∃d:Nat,(Ce V p l).1=(d:Int):=⟨(Ce V p l).1.toNat,by omega⟩;simp only[hd,ZGD]at hd1 Tt⊢;have Ya:(p.getD 0 U).2.2.1.length=N:=by
  have Nj:0<p.length:=by
   rcases Nj:p with _|⟨c,q⟩;·rw[Nj]at hne;exact absurd rfl hne
   ·simp
  have :=(hN.c (AV (d:=U) Nj)).2;omega
 rw[Ya];have ZAz:N≤12:=by omega
 have UK:∀(w:AN)(all:Bool),w.1.length=N-1→free++(((AK V p).map (H4 V l)++[Ji N V l]).filter λc=>all||decide (c.1=2)).map (KK V w)=CQ V p l w all:=λw all hw=>by rw[PE];exact ZDR hN (by omega) hw all
 have MJ:free.length≤400:=by rw[PE];exact ZGd LO EH
 obtain⟨W,hW⟩:∃W,(AK V p).map (H4 V l)++[Ji N V l]=W:=⟨_,rfl⟩;have ZFe:W.length≤401:=by rw[←hW];simp;omega
 have LR:∀c∈W,Uq N c∧-1048576≤Z V c∧Z V c≤1048576:=λc hc=>by
  rw[←hW]at hc;rcases List.mem_append.1 hc with hc|hc;·obtain⟨c',hc',rfl⟩:=List.mem_map.1 hc;have By:=Ck.1 hc';have Ej:=hN.c By.1;refine⟨bD Ej (by omega) Nd (JT c' hc') By.2,?_⟩;rw[WV (by have :=Ej.2;omega) By.2];unfold C3;split<;>omega
  ·rw[List.mem_singleton.1 hc];refine⟨ZE6 ZAz ⟨EJ,T8⟩,?_⟩;rw[eZ Tm];omega
 simp only[hW]at UK⊢;have hgood:=cC hN (v:=V) (by omega) CW (d:=d) (by omega);simp only[hl,ZGD]at hgood;have hpre:∀L,L=DJ V p (N-1) l d→Ct.pre (L,()):=λL hL=>by rw[hL];exact⟨ZGd hgood.1 (by omega),λq hq=>⟨(hgood.2 q hq).D.1,_,(hgood.2 q hq).D.2⟩⟩
 have Yh:∀j:Nat,j≤512→Eb.pre ((N:Int)-1,(j:Int),()):=λj _=>⟨by show(0:Int)≤(N:Int)-1;omega,by show(N:Int)-1≤1048576;omega⟩;have Xp:((N:Int)-1).toNat=N-1:=by omega
 simp only[Xp];refine⟨λh=>⟨h,trivial⟩,λh=>by rw[h];rfl,?_⟩;by_cases Ei:Ak V p=[]∨Aj V p=[]
 ·have hc:(((Ak V p).length:Int)==0||((Aj V p).length:Int)==0)=true:=by rcases Ei with h|h<;>simp[h]
  rw[hc,ZGC];have hT:DJ V p (N-1) l d=(List.range d).map λ(j:Nat)=>CQ V p l (List.replicate (N-1) 0,(j:Int)) false:=by unfold DJ;rw[ZGE Ei]
  refine Lp.iter d (λj z=>z=((j:Int),(List.range j).map λ(j:Nat)=>CQ V p l (List.replicate (N-1) 0,(j:Int)) false)) rfl ?_;rintro j z hj rfl R2 BJ;by_cases ej:j<d
  ·simp only[ZGB (show(j:Int)<(d:Int)by omega),ZGC,ZGS,ZGu];refine⟨⟨by omega,by omega⟩,?_⟩;have DX:=BJ ej _ rfl;rw[aF]at DX;refine Lp.flt W U free (λjc=>decide (jc.2.1=2)) (λjc=>KK V (List.replicate (N-1) 0,(j:Int)) jc.2) (by omega) (λi t R3 hi hi' hf Dv h1 h2=>?_) λR3 _=>?_
   ·have hm:=AV (d:=U) hi;simp only[ZGB hi',ZGD,ZGC];obtain⟨c,hq⟩:∃c,W.getD i U=c:=⟨_,rfl⟩;simp only[hq]at hm h1 h2⊢;refine⟨⟨by omega,hi'⟩,hi,?_⟩;by_cases h2':c.1=2;·rw[show(c.1==2)=true by simpa using h2',ZGC];obtain⟨JW,Co⟩:=LR c hm;exact⟨⟨by omega,by omega⟩,Yh j (by omega),⟨⟨N,JW,by omega,by show(List.replicate (N-1) (0:Int)).length+1=N;rw[ZGj];omega,by show(0:Int)≤V;omega,by show(V:Int)<N;omega⟩,Co,by show(-1048576:Int)≤1∧(1:Int)≤1048576;omega,.inl rfl,(U0 (n:=N-1) (j:=j) (by omega)).small (by omega) (by omega)⟩,⟨by simp only[ZGO];omega,by simp only[ZGO];omega⟩,hf,h1 (by simpa using h2')⟩
    ·rw[show(c.1==2)=false by simpa using h2',ZF9];exact⟨hf,h2 (by simpa using h2')⟩
   ·simp only[ZGH,ZGQ,ZF9];have hq:=UK (List.replicate (N-1) 0,(j:Int)) false (by simp);rw[P3 U W (λc=>decide (c.1=2)) (KK V (List.replicate (N-1) 0,(j:Int)))];simp only[ZHh]at hq;rw[hq];exact⟨⟨by simp only[ZGO,ZGM,ZG4];omega,by simp only[ZGO,ZGM,ZG4];omega⟩,⟨by omega,by omega⟩,DX⟩
  ·have :j=d:=by omega
   subst this;simp only[ZGH,ZGQ,ZF9];exact⟨hpre _ hT.symm,by rw[hT]⟩
 ·have hc:(((Ak V p).length:Int)==0||((Aj V p).length:Int)==0)=false:=by simp only[ZGx]at Ei;have h1:(Ak V p).length≠0:=λh=>Ei.1 (ZGY h);have h2:(Aj V p).length≠0:=λh=>Ei.2 (ZGY h);simp;omega
  rw[hc,ZF9];have hT:DJ V p (N-1) l d=(I7 V p).flatMap λc=>(List.range d).map λ(j:Nat)=>CQ V p l (Dx V l c (C7 V p) j) true:=by unfold DJ;rw[ZGA Ei]
  have side:∀(s:Int)(low:Bool),C7 V p=low→s=(if low then 1 else-1)→W.flatMap (λb=>if(decide (b.1≠2)&&decide (Z V b=s))=true then(List.range d).map λ(j:Nat)=>CQ V p l (if low then((AI V b).1.map λn=>-1*n,-1*(AI V b).2+j)else((AI V b).1,(AI V b).2+-j)) true else[])=DJ V p (N-1) l d:=by
   intro s low DM hs;rw[hT,iX,←hW,ZG9,ZKt];have IS:([Ji N V l].filter λb=>decide (b.1≠2)&&decide (Z V b=s))=[]:=by rw[ZHI (by simp[Ji])];rfl
   rw[IS,List.flatMap_nil,ZGZ,ZJj];unfold I7;rw[ZKC];have ZBJ:(AK V p).filter ((λb=>decide (b.1≠2)&&decide (Z V b=s))∘H4 V l)=(AK V p).filter λc=>decide (c.1≠2∧decide (0<Z V c)=C7 V p):=by
    apply List.filter_congr;intro c hc;have By:=Ck.1 hc;have hcs:=WV (l:=l) (show V<c.2.2.1.length by have :=(hN.c By.1).2;omega) By.2;show(decide (c.1≠2)&&decide (Z V (H4 V l c)=s))=_;rw[hcs,DM,hs];have h0:=By.2;unfold C3;by_cases h2:c.1=2;·simp[h2]
    ·cases low with|true=>simp[h2];omega|false=>simp[h2];omega
   rw[ZBJ];congr 1;funext c;rw[aV,DM];rfl
  have NT:∀(b:O)(low:Bool)(s:Int)(j:Nat),s=(if low then 1 else-1)→(AI V b).1.length=N-1→BD (-s) (AI V b) s (List.replicate (N-1) 0,(j:Int))=if low then((AI V b).1.map λn=>-1*n,-1*(AI V b).2+j)else((AI V b).1,(AI V b).2+-j):=by
   intro b low s j hs hb;have hz:(List.replicate (N-1) (0:Int),(j:Int))=(List.replicate (AI V b).1.length 0,(j:Int)):=by rw[hb]
   rw[hz,pR];cases low with|true=>rw[hs];simp|false=>rw[hs];simp
  have restlen:∀b∈W,(AI V b).1.length=N-1:=λb hb=>by have :=(LR b hb).1.2.2;show(Az b.2.2.1 V).length=_;rw[NC (by omega),this]
  have loop:∀(s:Int)(low:Bool),C7 V p=low→s=(if low then 1 else-1)→∀body:Int×List (List O)→(Int×List (List O)→Prop)→Prop,(∀(i:Nat)(t:List (List O))(R:Int×List (List O)→Prop),i<W.length→t.length≤401*512→W.getD i U∈W→(decide ((W.getD i U).1≠2)&&decide (Z V (W.getD i U)=s))=false→R ((i:Int)+1,t)→body ((i:Int),t) R)→(∀(i:Nat)(t:List (List O))(R:Int×List (List O)→Prop),i<W.length→t.length≤401*512→W.getD i U∈W→(decide ((W.getD i U).1≠2)&&decide (Z V (W.getD i U)=s))=true→R ((i:Int)+1,t++(List.range d).map λ(j:Nat)=>CQ V p l (BD (-s) (AI V (W.getD i U)) s (List.replicate (N-1) 0,(j:Int))) true)→body ((i:Int),t) R)→(∀R:Int×List (List O)→Prop,body ((W.length:Int),DJ V p (N-1) l d) R)→Lp body (0,[]):=by
   intro s low DM hs body Gm hb2 O7;have ZBs:=side s low DM hs;refine Lp.flat W U [] (λb=>if(decide (b.1≠2)&&decide (Z V b=s))=true then(List.range d).map λ(j:Nat)=>CQ V p l (if low then((AI V b).1.map λn=>-1*n,-1*(AI V b).2+j)else((AI V b).1,(AI V b).2+-j)) true else[]) (by omega) (λi R hi hi' hf hR=>?_) λR=>?_
   ·have hm:=AV (d:=U) hi;rw[ZG8]at hR⊢;have Dv:((W.take i).flatMap λb=>if(decide (b.1≠2)&&decide (Z V b=s))=true then(List.range d).map λ(j:Nat)=>CQ V p l (if low then((AI V b).1.map λn=>-1*n,-1*(AI V b).2+j)else((AI V b).1,(AI V b).2+-j)) true else[]).length≤401*512:=by
     have h1:=Ov (g:=λb=>if(decide (b.1≠2)&&decide (Z V b=s))=true then(List.range d).map λ(j:Nat)=>CQ V p l (if low then((AI V b).1.map λn=>-1*n,-1*(AI V b).2+j)else((AI V b).1,(AI V b).2+-j)) true else[]) (k:=512) (l:=W.take i) λx _=>by
      split;·simp;omega
      ·simp
     have h2:(W.take i).length≤401:=by rw[ZGP];omega
     exact ZGd h1 (ZIE h2 (ZGR 512))
    cases GC:decide ((W.getD i U).1≠2)&&decide (Z V (W.getD i U)=s)with|false=>rw[GC,ZGA (by simp),ZGZ]at hR;exact Gm i _ R hi Dv hm GC hR|true=>
     rw[GC,ZGE rfl]at hR;refine hb2 i _ R hi Dv hm GC ?_;have e:(λ(j:Nat)=>CQ V p l (BD (-s) (AI V (W.getD i U)) s (List.replicate (N-1) 0,(j:Int))) true)=λ(j:Nat)=>CQ V p l (if low then((AI V (W.getD i U)).1.map λn=>-1*n,-1*(AI V (W.getD i U)).2+j)else((AI V (W.getD i U)).1,(AI V (W.getD i U)).2+-j)) true:=by funext j;rw[NT _ low s j hs (restlen _ hm)]
     rw[e];exact hR
   ·rw[ZG8,ZBs];exact O7 R
  have lZ:∀(b:O)(s:Int)(j:Nat),b∈W→s=1∨s=-1→j≤512→BY.pre (-s,AI V b,s,(List.replicate (N-1) 0,(j:Int)),())∧Hk (BD (-s) (AI V b) s (List.replicate (N-1) 0,(j:Int)))∧(BD (-s) (AI V b) s (List.replicate (N-1) 0,(j:Int))).1.length=N-1:=by
   intro b s j hb hs hj;obtain⟨JW,_⟩:=LR b hb;have Gv:=restlen b hb;have RM:Hk (AI V b):=bH JW.2.1 V;have D3:F1 536870912 (N-1) (AI V b):=by
    rw[←hW]at hb;rcases List.mem_append.1 hb with hb|hb;·obtain⟨c,hc,rfl⟩:=List.mem_map.1 hb;rw[aV];exact SJ (hN.c (Ck.1 hc).1) (by omega) (JT c hc)
    ·rw[List.mem_singleton.1 hb,rV Tm];exact⟨by simp,λx hx=>by rw[(List.mem_replicate.1 hx).2];omega,by simp only;omega⟩
   have hnb:=U0 (n:=N-1) hj;have hs':-1≤-s∧-s≤1:=by omega
   have hs'':-1≤s∧s≤1:=by omega
   have hm:=Ur (A:=1) (B:=1) (by omega) (by omega) (by omega) (by omega) hs' D3 hs'' hnb;exact⟨⟨by show-1048576≤-s∧-s≤1048576;omega,RM,by show-1048576≤s∧s≤1048576;omega,hnb.small (by omega) (by omega),by show(AI V b).1.length=(List.replicate (N-1) (0:Int)).length;rw[ZGj];exact Gv⟩,hm.small (by omega) (by omega),hm.1⟩
  have Yc:decide (((Aj V p).length:Int)<((Ak V p).length:Int))=!C7 V p:=by
   unfold C7;by_cases h:(Ak V p).length≤(Aj V p).length;·rw[ZGB h,ZGF (by omega)];rfl
   ·rw[ZGF h,ZGB (by omega)];rfl
  rw[Yc];cases DM:C7 V p with|false=>
   simp only[ZGz,ZGC];refine loop (-1) false DM rfl _ ?_ ?_ ?_
   ·intro i t R hi ht hm GC hR;have hi':(i:Int)<(W.length:Int):=by omega
    simp only[ZGB hi',ZGD,ZGC];obtain⟨b,hq⟩:∃b,W.getD i U=b:=⟨_,rfl⟩;simp only[hq]at hm GC⊢;have O8:=(LR b hm).1.2.2;have D4:b.2.2.1.getD V 0=Z V b:=rfl;simp only[D4];refine⟨⟨by omega,hi'⟩,hi,λh=>⟨h,trivial⟩,λh=>⟨h,trivial⟩,λh=>⟨h,h,by omega,by omega⟩,λh=>⟨h,trivial⟩,λh=>⟨h,h,trivial⟩,λh=>by rw[h];rfl,?_⟩;have :(b.1==2||Z V b !=-1)=true:=by revert GC;by_cases h2:b.1=2<;>by_cases h3:Z V b=-1<;>simp[h2,h3]
    rw[this,ZGC];exact⟨⟨by omega,by omega⟩,hR⟩
   ·intro i t R hi ht hm GC hR;have hi':(i:Int)<(W.length:Int):=by omega
    simp only[ZGB hi',ZGD,ZGC];obtain⟨b,hq⟩:∃b,W.getD i U=b:=⟨_,rfl⟩;simp only[hq]at hm GC hR⊢;have O8:=(LR b hm).1.2.2;have D4:b.2.2.1.getD V 0=Z V b:=rfl;have Hx:(Az b.2.2.1 V,b.2.2.2)=AI V b:=rfl;simp only[D4,Hx];refine⟨⟨by omega,hi'⟩,hi,λh=>⟨h,trivial⟩,λh=>⟨h,trivial⟩,λh=>⟨h,h,by omega,by omega⟩,λh=>⟨h,trivial⟩,λh=>⟨h,h,trivial⟩,λh=>by rw[h];rfl,?_⟩;have :(b.1==2||Z V b !=-1)=false:=by revert GC;by_cases h2:b.1=2<;>by_cases h3:Z V b=-1<;>simp[h2,h3]
    rw[this,ZF9];refine⟨⟨by show b.2.2.1.length≤1048576;omega,by show(0:Int)≤V;omega,by show(V:Int)<(b.2.2.1.length:Int);omega⟩,?_⟩;refine Lp.iter d (λj z=>z=((j:Int),t++(List.range j).map λ(j:Nat)=>CQ V p l (BD (- -1) (AI V b) (-1) (List.replicate (N-1) 0,(j:Int))) true)) (by simp) ?_;rintro j z hj rfl R2 BJ;by_cases ej:j<d
    ·simp only[ZGB (show(j:Int)<(d:Int)by omega),ZGC,ZGS,ZGu];have DX:=BJ ej _ rfl;rw[aF,←ZGy]at DX;obtain⟨MR,Q8,Kk⟩:=lZ b (-1) j hm (.inr rfl) (by omega);refine⟨⟨by omega,by omega⟩,⟨by omega,by omega⟩,Yh j (by omega),MR,⟨by omega,by omega⟩,?_⟩;obtain⟨by_,Xv⟩:∃w:AN,BD (- -1) (AI V b) (-1) (List.replicate (N-1) 0,(j:Int))=w:=⟨_,rfl⟩;simp only[Xv]at MR Q8 Kk DX⊢;refine Lp.iter W.length (λk z=>z=((k:Int),by_,free++(W.take k).map (KK V by_),by_)) (by simp) ?_;rintro k z hk rfl R3 IE;by_cases ek:k<W.length
     ·have ek':(k:Int)<(W.length:Int):=by omega
      have hmk:=AV (d:=U) ek;have Qq:=IE ek _ rfl;rw[H7 (d:=U) ek,ZGp,ZGi,ZIA,←ZGy]at Qq;simp only[ZGB ek',ZGD,ZGC];obtain⟨JW,Co⟩:=LR _ hmk;exact⟨⟨by omega,ek'⟩,ek,⟨⟨N,JW,by omega,by show by_.1.length+1=N;omega,by show(0:Int)≤V;omega,by show(V:Int)<N;omega⟩,Co,by show(-1048576:Int)≤1∧(1:Int)≤1048576;omega,.inl rfl,Q8⟩,⟨by simp only[ZGO,ZGI,ZGM,ZGP];omega,by simp only[ZGO,ZGI,ZGM,ZGP];omega⟩,⟨by omega,by omega⟩,Qq⟩
     ·have :k=W.length:=by omega
      subst this;simp only[ZGH,ZGQ,ZF9,ZGN];have Gt:=UK by_ true Kk;simp only[ZHp]at Gt;rw[List.filter_eq_self.2 λ_ _=>rfl]at Gt;rw[Gt];exact⟨⟨by simp only[ZGO,ZGI,ZGM,ZG4];omega,by simp only[ZGO,ZGI,ZGM,ZG4];omega⟩,⟨by omega,by omega⟩,DX⟩
    ·have :j=d:=by omega
     subst this;simp only[ZGH,ZGQ,ZF9];exact⟨⟨by omega,by omega⟩,hR⟩
   ·intro R;simp only[ZGH,ZGQ,ZF9];exact⟨hpre _ rfl,trivial⟩|true=>
   simp only[ZGq,ZF9];refine loop 1 true DM rfl _ ?_ ?_ ?_
   ·intro i t R hi ht hm GC hR;have hi':(i:Int)<(W.length:Int):=by omega
    simp only[ZGB hi',ZGD,ZGC];obtain⟨b,hq⟩:∃b,W.getD i U=b:=⟨_,rfl⟩;simp only[hq]at hm GC⊢;have O8:=(LR b hm).1.2.2;have D4:b.2.2.1.getD V 0=Z V b:=rfl;simp only[D4];refine⟨⟨by omega,hi'⟩,hi,λh=>⟨h,trivial⟩,λh=>⟨h,trivial⟩,λh=>⟨h,h,by omega,by omega⟩,λh=>⟨h,trivial⟩,λh=>⟨h,h,trivial⟩,λh=>by rw[h];rfl,?_⟩;have :(b.1==2||Z V b !=1)=true:=by revert GC;by_cases h2:b.1=2<;>by_cases h3:Z V b=1<;>simp[h2,h3]
    rw[this,ZGC];exact⟨⟨by omega,by omega⟩,hR⟩
   ·intro i t R hi ht hm GC hR;have hi':(i:Int)<(W.length:Int):=by omega
    simp only[ZGB hi',ZGD,ZGC];obtain⟨b,hq⟩:∃b,W.getD i U=b:=⟨_,rfl⟩;simp only[hq]at hm GC hR⊢;have O8:=(LR b hm).1.2.2;have D4:b.2.2.1.getD V 0=Z V b:=rfl;have Hx:(Az b.2.2.1 V,b.2.2.2)=AI V b:=rfl;simp only[D4,Hx];refine⟨⟨by omega,hi'⟩,hi,λh=>⟨h,trivial⟩,λh=>⟨h,trivial⟩,λh=>⟨h,h,by omega,by omega⟩,λh=>⟨h,trivial⟩,λh=>⟨h,h,trivial⟩,λh=>by rw[h];rfl,?_⟩;have :(b.1==2||Z V b !=1)=false:=by revert GC;by_cases h2:b.1=2<;>by_cases h3:Z V b=1<;>simp[h2,h3]
    rw[this,ZF9];refine⟨⟨by show b.2.2.1.length≤1048576;omega,by show(0:Int)≤V;omega,by show(V:Int)<(b.2.2.1.length:Int);omega⟩,?_⟩;refine Lp.iter d (λj z=>z=((j:Int),t++(List.range j).map λ(j:Nat)=>CQ V p l (BD (-1) (AI V b) 1 (List.replicate (N-1) 0,(j:Int))) true)) (by simp) ?_;rintro j z hj rfl R2 BJ;by_cases ej:j<d
    ·simp only[ZGB (show(j:Int)<(d:Int)by omega),ZGC,ZGS,ZGu];have DX:=BJ ej _ rfl;rw[aF,←ZGy]at DX;obtain⟨MR,Q8,Kk⟩:=lZ b 1 j hm (.inl rfl) (by omega);refine⟨⟨by omega,by omega⟩,⟨by omega,by omega⟩,Yh j (by omega),MR,⟨by omega,by omega⟩,?_⟩;obtain⟨by_,Xv⟩:∃w:AN,BD (-1) (AI V b) 1 (List.replicate (N-1) 0,(j:Int))=w:=⟨_,rfl⟩;simp only[Xv]at MR Q8 Kk DX⊢;refine Lp.iter W.length (λk z=>z=((k:Int),by_,free++(W.take k).map (KK V by_),by_)) (by simp) ?_;rintro k z hk rfl R3 IE;by_cases ek:k<W.length
     ·have ek':(k:Int)<(W.length:Int):=by omega
      have hmk:=AV (d:=U) ek;have Qq:=IE ek _ rfl;rw[H7 (d:=U) ek,ZGp,ZGi,ZIA,←ZGy]at Qq;simp only[ZGB ek',ZGD,ZGC];obtain⟨JW,Co⟩:=LR _ hmk;exact⟨⟨by omega,ek'⟩,ek,⟨⟨N,JW,by omega,by show by_.1.length+1=N;omega,by show(0:Int)≤V;omega,by show(V:Int)<N;omega⟩,Co,by show(-1048576:Int)≤1∧(1:Int)≤1048576;omega,.inl rfl,Q8⟩,⟨by simp only[ZGO,ZGI,ZGM,ZGP];omega,by simp only[ZGO,ZGI,ZGM,ZGP];omega⟩,⟨by omega,by omega⟩,Qq⟩
     ·have :k=W.length:=by omega
      subst this;simp only[ZGH,ZGQ,ZF9,ZGN];have Gt:=UK by_ true Kk;simp only[ZHp]at Gt;rw[List.filter_eq_self.2 λ_ _=>rfl]at Gt;rw[Gt];exact⟨⟨by simp only[ZGO,ZGI,ZGM,ZG4];omega,by simp only[ZGO,ZGI,ZGM,ZG4];omega⟩,⟨by omega,by omega⟩,DX⟩
    ·have :j=d:=by omega
     subst this;simp only[ZGH,ZGQ,ZF9];exact⟨⟨by omega,by omega⟩,hR⟩
   ·intro R;simp only[ZGH,ZGQ,ZF9];exact⟨hpre _ rfl,trivial⟩
end Go.Proofs.YtgpdnmfpgkkgcaaGreatDoor
