/- Part of a proof that a law of the program holds for every input: what the functions answer, in plain Lean. No conditions. -/
import Derived.Below
import Derived.Carry
import Derived.ChangeOld
import Derived.LaidMore
import Derived.Lib.LaidTab
import Derived.OpenShut
import Derived.ProofKit
import Derived.ShutString
import Derived.SizedLaws
import Derived.Stop.Joined
import Derived.WalkKit
import Derived.Test.YtgpdnmfpgkkgcaaGreatDoorP14
namespace Go.Proofs.YtgpdnmfpgkkgcaaGreatDoor
open Go
set_option linter.defProp false
def ZJw:=@Int.dvd_sub
set_option linter.unusedSimpArgs false
set_option linter.unusedVariables false
theorem WN{α:Type}(f:α→Int):∀l:List α,∃M:Int,0≤M∧∀c∈l,f c≤M
 |[]=>⟨0,by omega,by simp⟩|c::l=>by
  obtain⟨M,h1,h2⟩:=WN f l;refine⟨max M (f c),by omega,λd hd=>?_⟩;rcases List.mem_cons.1 hd with rfl|hd;·omega
  ·have :=h2 d hd;omega
theorem Up{α:Type}(f:α→Int):∀l:List α,l≠[]→∃c∈l,∀d∈l,f d≤f c
 |[],h=>absurd rfl h|[c],_=>⟨c,by simp,λd hd=>by rw[List.mem_singleton.1 hd];omega⟩|c::d::l,_=>by
  obtain⟨e,he,h⟩:=Up f (d::l) (by simp);by_cases hc:f c≤f e
  ·refine⟨e,ZGK _ he,λx hx=>?_⟩;rcases List.mem_cons.1 hx with rfl|hx;·exact hc
   ·exact h x hx
  ·refine⟨c,by simp,λx hx=>?_⟩;rcases List.mem_cons.1 hx with rfl|hx;·omega
   ·have :=h x hx;omega
theorem jI{p:List O}{v:Nat}{x:List Int}:As (Ba v p) x=true↔∀c∈p,Z v c=0→Bs c.1 c.2.1 (Ah (AI v c) x):=by
 rw[MV];unfold Ba;constructor;·intro h c hc h0;exact h (GR v c) (ZH6 (List.mem_filter.2 ⟨hc,by simpa using h0⟩))
 ·intro h q hq;obtain⟨c,hc,rfl⟩:=List.mem_map.1 hq;obtain⟨h1,h2⟩:=List.mem_filter.1 hc;exact h c h1 (by simpa using h2)
theorem I5{v:Nat}{p:List O}{c:O}:c∈Ak v p↔c∈p∧Z v c≠0∧c.1≠1∧c.1≠2∧0<Z v c:=by simp[Ak]
theorem Jb{v:Nat}{p:List O}{c:O}:c∈Aj v p↔c∈p∧Z v c≠0∧c.1≠1∧c.1≠2∧¬0<Z v c:=by simp[Aj]
theorem pM{v:Nat}{p:List O}{c:O}:c∈Cc v p↔c∈p∧Z v c≠0∧c.1=2:=by simp[Cc]
theorem AG.kind'{c:O}(h:AG c=true):c.1=0∨c.1=1∨c.1=2∧1≤c.2.1:=by
 unfold AG at h;split at h
 ·rename_i h1;rcases h1 with h1|h1;·exact .inl h1
  ·exact .inr (.inl h1)
 ·split at h;·rename_i h2;simp only[ZGW,ZG0]at h;exact .inr (.inr ⟨h2,h.1.1⟩)
  ·cases h
theorem QD{p:List O}{n:Int}{v:Nat}{x:List Int}(h:pieceN p n)(hne:∀c∈p,Z v c≠0→c.1≠1)(t:Int):JI p v x t↔As (Ba v p) x=true∧(∀c∈Ak v p,0≤Ah (AI v c) x+Z v c*t)∧(∀c∈Aj v p,0≤Ah (AI v c) x+Z v c*t)∧∀c∈Cc v p,c.2.1∣Ah (AI v c) x+Z v c*t:=by
 rw[jI];unfold JI;constructor
 ·intro hh;refine⟨λc hc h0=>?_,λc hc=>?_,λc hc=>?_,λc hc=>?_⟩;·have :=hh c hc;rwa[h0,ZIo,ZH3]at this
  ·obtain⟨h1,h2,h3,h4,h5⟩:=I5.1 hc;have :=hh c h1;have hk:c.1=0:=by have :=AG.kind' (h.2.1 c h1).1;omega
   unfold Bs at this;rwa[ZGE hk]at this
  ·obtain⟨h1,h2,h3,h4,h5⟩:=Jb.1 hc;have :=hh c h1;have hk:c.1=0:=by have :=AG.kind' (h.2.1 c h1).1;omega
   unfold Bs at this;rwa[ZGE hk]at this
  ·obtain⟨h1,h2,h3⟩:=pM.1 hc;have :=hh c h1;unfold Bs at this;rwa[ZGA (by omega),ZGA (by omega)]at this
 ·rintro⟨k1,k2,k3,k4⟩c hc;by_cases h0:Z v c=0;·rw[h0,ZIo,ZH3];exact k1 c hc h0
  ·have h1:=hne c hc h0;unfold Bs;rcases AG.kind' (h.2.1 c hc).1 with hk|hk|⟨hk,_⟩
   ·rw[ZGE hk];by_cases hp:0<Z v c;·exact k2 c (I5.2 ⟨hc,h0,h1,by omega,hp⟩)
    ·exact k3 c (Jb.2 ⟨hc,h0,h1,by omega,hp⟩)
   ·exact absurd hk h1
   ·rw[ZGA (by omega),ZGA (by omega)];exact k4 c (pM.2 ⟨hc,h0,hk⟩)
theorem Rk{a M:Int}(ha:1≤a)(hM:0≤M):M≤a*M:=by
 have h:=ZID (a:=a-1) (b:=M) (by omega) hM;have e:(a-1)*M=a*M-M:=by grind
 omega
theorem ZCz{p:List O}{n:Int}{v:Nat}{x:List Int}(h:pieceN p n)(hne:∀c∈p,Z v c≠0→c.1≠1)(hD:Cc v p=[])(hS:Ak v p=[]∨Aj v p=[]):As (Ba v p) x=true↔∃t,JI p v x t:=by
 constructor
 ·intro hf;obtain⟨M,h0,hM⟩:=WN (λc=>-Ah (AI v c) x) p;rcases hS with hS|hS
  ·refine⟨-M,(QD h hne _).2 ⟨hf,by rw[hS];simp,λc hc=>?_,by rw[hD];simp⟩⟩;obtain⟨h1,h2,h3,h4,h5⟩:=Jb.1 hc;have :=hM c h1;have :=Rk (a:=-Z v c) (M:=M) (by omega) h0;have e:Z v c*-M=-Z v c*M:=by grind
   omega
  ·refine⟨M,(QD h hne _).2 ⟨hf,λc hc=>?_,by rw[hS];simp,by rw[hD];simp⟩⟩;obtain⟨h1,h2,h3,h4,h5⟩:=I5.1 hc;have :=hM c h1;have :=Rk (a:=Z v c) (M:=M) (by omega) h0;omega
 ·rintro⟨t,ht⟩;exact((QD h hne t).1 ht).1
theorem qV{v:Nat}{c d:O}{x:List Int}(hl:(AI v c).1.length=(AI v d).1.length):Ah (Kw v c d).2.2 x=Z v c*Ah (AI v d) x+-Z v d*Ah (AI v c) x:=by show Ah (BD (Z v c) (AI v d) (-Z v d) (AI v c)) x=_;rw[cI hl.symm]
theorem ZDB{p:List O}{n:Int}{v:Nat}{x:List Int}(h:pieceN p n)(hx:(x.length:Int)+1=n)(hv:v≤x.length)(hne:∀c∈p,Z v c≠0→c.1≠1)(hE:Js v p=true)(hS:¬(Ak v p=[]∨Aj v p=[])):As (I6 v p) x=true↔∃t,JI p v x t:=by
 have hlen:∀c∈p,(AI v c).1.length=x.length:=λc hc=>TG (by have :=(h.2.1 c hc).2;omega) hv;unfold Js at hE;rw[ZGW]at hE;have hD:Cc v p=[]:=List.isEmpty_iff.1 hE.1;have Tj:∀c∈Ak v p,∀d∈Aj v p,Z v c=1∨Z v d=-1:=λc hc d hd=>by have :=List.all_eq_true.1 (List.all_eq_true.1 hE.2 c hc) d hd;simpa using this
 rw[ZGx]at hS;have PU:As (I6 v p) x=true↔As (Ba v p) x=true∧∀c∈Ak v p,∀d∈Aj v p,0≤Z v c*Ah (AI v d) x+-Z v d*Ah (AI v c) x:=by
  rw[MV,MV];unfold I6;constructor;·intro hh;refine⟨λc hc=>hh c (List.mem_append.2 (.inl hc)),λc hc d hd=>?_⟩;have :=hh (Kw v c d) (List.mem_append.2 (.inr (List.mem_flatMap.2 ⟨c,hc,ZH6 hd⟩)));rw[qV ((hlen c (I5.1 hc).1).trans (hlen d (Jb.1 hd).1).symm)]at this;exact this
  ·rintro⟨h1,h2⟩q hq;rcases List.mem_append.1 hq with hq|hq;·exact h1 q hq
   ·obtain⟨c,hc,hq⟩:=List.mem_flatMap.1 hq;obtain⟨d,hd,rfl⟩:=List.mem_map.1 hq;rw[qV ((hlen c (I5.1 hc).1).trans (hlen d (Jb.1 hd).1).symm)];exact h2 c hc d hd
 rw[PU];constructor
 ·rintro⟨hf,hp⟩;obtain⟨c,hc,J8⟩:=Up (λc=>-(Ah (AI v c) x/Z v c)) _ hS.1;have hcl:=I5.1 hc;refine⟨-(Ah (AI v c) x/Z v c),(QD h hne _).2 ⟨hf,λd hd=>?_,λd hd=>?_,by rw[hD];simp⟩⟩
  ·have hdl:=I5.1 hd;have h1:=J8 d hd;have h2:=ZHT (Ah (AI v d) x) (Z v d);have h3:=ZHQ (Ah (AI v d) x) hdl.2.1;have h4:Z v d*-(Ah (AI v d) x/Z v d)≤Z v d*-(Ah (AI v c) x/Z v c):=ZIX h1 (by omega);have e:Z v d*-(Ah (AI v d) x/Z v d)=-(Z v d*(Ah (AI v d) x/Z v d)):=by grind
   omega
  ·have hdu:=Jb.1 hd;have mH:=hp c hc d hd;rcases Tj c hc d hd with h1|h1
   ·rw[h1]at mH⊢;rw[Int.ediv_one];have e:Z v d*-Ah (AI v c) x=-Z v d*Ah (AI v c) x:=by grind
    omega
   ·rw[h1]at mH⊢;have h2:=ZHT (Ah (AI v c) x) (Z v c);have h3:=ZHH (Ah (AI v c) x) hcl.2.2.2.2;obtain⟨q,hq⟩:∃q,Ah (AI v c) x/Z v c=q:=⟨_,rfl⟩;rw[hq]at h2⊢;have AU:0<Z v c:=hcl.2.2.2.2;have h5:Z v c*(Ah (AI v d) x+q)>-Z v c:=by
     have e:Z v c*(Ah (AI v d) x+q)=Z v c*Ah (AI v d) x+Z v c*q:=by grind
     omega
    have h6:-1<Ah (AI v d) x+q:=by
     refine Int.lt_of_mul_lt_mul_left (a:=Z v c) ?_ (by omega);have e:Z v c*-1=-Z v c:=by grind
     omega
    omega
 ·rintro⟨t,ht⟩;obtain⟨k1,k2,k3,_⟩:=(QD h hne t).1 ht;refine⟨k1,λc hc d hd=>?_⟩;have h1:=k2 c hc;have h2:=k3 d hd;have h3:=ZID (a:=Z v c) (by have :=(I5.1 hc).2.2.2.2;omega) h2;have h4:=ZID (a:=-Z v d) (by have :=(Jb.1 hd).2.2.2.2;omega) h1;have e:Z v c*(Ah (AI v d) x+Z v d*t)+-Z v d*(Ah (AI v c) x+Z v c*t)=Z v c*Ah (AI v d) x+-Z v d*Ah (AI v c) x:=by grind
  omega
theorem sK(a f t:Int):f*(a*t)=C3 a*( f*AR a*t):=by
 unfold C3 AR;split;·rw[show max a (-a)=-a by omega];grind
 ·rw[show max a (-a)=a by omega];grind
def LF(p:List O)(v:Nat)(l:Int)(x:List Int)(s:Int):Prop:=As (Ba v p) x=true∧(∀c∈AK v p,Bs c.1 (c.2.1*Ad v l c) (Ad v l c*Ah (AI v c) x+C3 (Z v c)*s))∧l∣s
theorem xC{p:List O}{v:Nat}{x:List Int}(t:Int):JI p v x t↔As (Ba v p) x=true∧∀c∈AK v p,Bs c.1 c.2.1 (Ah (AI v c) x+Z v c*t):=by
 rw[jI];unfold JI;constructor;·intro h;refine⟨λc hc h0=>?_,λc hc=>h c (Ck.1 hc).1⟩;have :=h c hc;rwa[h0,ZIo,ZH3]at this
 ·rintro⟨h1,h2⟩c hc;by_cases h0:Z v c=0;·rw[h0,ZIo,ZH3];exact h1 c hc h0
  ·exact h2 c (Ck.2 ⟨hc,h0⟩)
theorem dV{p:List O}{v:Nat}{x:List Int}(hL:(Ac v p).2=0):(∃s,LF p v (Ac v p).1 x s)↔∃t,JI p v x t:=by
 obtain⟨_,EJ,_⟩:=Mb hL;have key:∀t,LF p v (Ac v p).1 x ((Ac v p).1*t)↔JI p v x t:=λt=>by
  rw[xC];unfold LF;refine⟨λh=>⟨h.1,λc hc=>?_⟩,λh=>⟨h.1,λc hc=>?_,ZIH _ _⟩⟩;·obtain⟨f1,f2,f3,f4⟩:=KV hL hc;have :=h.2.1 c hc;refine(Bs.scale (f:=Ad v (Ac v p).1 c) (by omega)).1 ?_;rwa[ZI4,sK,f1]
  ·obtain⟨f1,f2,f3,f4⟩:=KV hL hc;have :=(Bs.scale (k:=c.1) (m:=c.2.1) (V:=Ah (AI v c) x+Z v c*t) (f:=Ad v (Ac v p).1 c) (by omega)).2 (h.2 c hc);rwa[ZI4,sK,f1]at this
 constructor;·rintro⟨s,hs⟩;obtain⟨t,rfl⟩:=hs.2.2;exact⟨t,(key t).1 hs⟩
 ·rintro⟨t,ht⟩;exact⟨_,(key t).2 ht⟩
theorem tH{v:Nat}{l:Int}{c:O}{w:AN}{x:List Int}(hl:(AI v c).1.length=w.1.length):Ah (Mu v l w c).2.2 x=Ad v l c*Ah (AI v c) x+C3 (Z v c)*Ah w x:=by
 show Ah (BD 1 (Dp v l c) (C3 (Z v c)) w) x=_;rw[cI (by show((AI v c).1.map λn=>Ad v l c*n).length=_;rw[ZGM];exact hl)];have :Ah (Dp v l c) x=Ad v l c*Ah (AI v c) x:=by have :=Vj (Ad v l c) (AI v c) 0 x;rw[ZH3,ZH3]at this;exact this
 rw[this];omega
theorem VV{p:List O}{v:Nat}{l:Int}{w:AN}{all:Bool}{x:List Int}(hl:∀c∈p,(AI v c).1.length=w.1.length):As (CQ v p l w all) x=true↔As (Ba v p) x=true∧(∀c∈AK v p,all=true∨c.1=2→Bs c.1 (c.2.1*Ad v l c) (Ad v l c*Ah (AI v c) x+C3 (Z v c)*Ah w x))∧l∣Ah w x:=by
 rw[MV,MV];unfold CQ;constructor
 ·intro h;refine⟨λc hc=>h c (List.mem_append.2 (.inl (List.mem_append.2 (.inl hc)))),λc hc ha=>?_,?_⟩;·have :=h (Mu v l w c) (List.mem_append.2 (.inl (List.mem_append.2 (.inr (ZH6 (List.mem_filter.2 ⟨hc,by simpa using ha⟩))))));rw[tH (hl c (Ck.1 hc).1)]at this;exact this
  ·exact h (2,l,w) (List.mem_append.2 (.inr (List.mem_singleton.2 rfl)))
 ·rintro⟨h1,h2,h3⟩q hq;rcases List.mem_append.1 hq with hq|hq
  ·rcases List.mem_append.1 hq with hq|hq;·exact h1 q hq
   ·obtain⟨c,hc,rfl⟩:=List.mem_map.1 hq;obtain⟨hc,ha⟩:=List.mem_filter.1 hc;rw[tH (hl c (Ck.1 hc).1)];exact h2 c hc (by simpa using ha)
  ·rw[List.mem_singleton.1 hq];exact h3
theorem qC{v:Nat}{l:Int}{c:O}{low:Bool}{j:Nat}{x:List Int}:Ah (Dx v l c low j) x=if low=true then-(Ad v l c*Ah (AI v c) x)+j else Ad v l c*Ah (AI v c) x-j:=by unfold Dx;cases low with
 |true=>
  rw[ZGE rfl,ZGE rfl];have h1:=Vj (-1) (Dp v l c) (j:Int) x;have h2:=Vj (Ad v l c) (AI v c) 0 x;have e:((AI v c).1.map λn=>Ad v l c*n,Ad v l c*(AI v c).2+0)=Dp v l c:=by rw[ZH3];rfl
  rw[e]at h2;rw[h1,h2];omega|false=>rw[ZGA (by simp),ZGA (by simp)];have h2:=Vj (Ad v l c) (AI v c) (-(j:Int)) x;show Ah ((AI v c).1.map λn=>Ad v l c*n,Ad v l c*(AI v c).2+-(j:Int)) x=_;rw[h2];omega
theorem XB{a d:Int}(ha:0≤a)(hd:0<d):a%d≤a:=by have h1:=ZHT a d;have h2:=ZID (a:=d) (b:=a/d) (by omega) (Int.ediv_nonneg ha (by omega));omega
theorem Bs.period{k m V W d:Int}(hk:k≠0)(hk1:k≠1)(hd:m∣d)(hVW:d∣V-W)(h:Bs k m V):Bs k m W:=by unfold Bs at*;rw[ZGA hk,ZGA hk1]at*;have h1:m∣V-W:=ZIi hd hVW;have h2:=ZJw h h1;rwa[show V-(V-W)=W by omega]at h2
theorem sL{a s s' d:Int}(h:d∣s-s')(y:Int):d∣y+C3 a*s-(y+C3 a*s'):=by
 have e:y+C3 a*s-(y+C3 a*s')=C3 a*(s-s'):=by grind
 rw[e];exact ZIi h (Int.dvd_mul_left _ _)
structure JG(p:List O)(n:Int)(v:Nat)(l d:Int)(x:List Int):Prop where
 h:pieceN p n
 hx:(x.length:Int)+1=n
 hv:v≤x.length
 hne:∀c∈p,Z v c≠0→c.1≠1
 hd:1≤d
 hl:l∣d
 hm:∀c∈AK v p,c.1=2→c.2.1*Ad v l c∣d
theorem JG.len{p:List O}{n:Int}{v:Nat}{l d:Int}{x:List Int}(h:JG p n v l d x):∀c∈p,(AI v c).1.length=x.length:=λc hc=>TG (by have :=(h.h.2.1 c hc).2;have :=h.hx;omega) h.hv
theorem JG.kind{p:List O}{n:Int}{v:Nat}{l d:Int}{x:List Int}(h:JG p n v l d x){c:O}(hc:c∈AK v p):c.1=0∧(c∈Ak v p∧0<Z v c∨c∈Aj v p∧Z v c<0)∨c.1=2:=by
 obtain⟨h1,h2⟩:=Ck.1 hc;have h3:=h.hne c h1 h2;rcases AG.kind' (h.h.2.1 c h1).1 with hk|hk|⟨hk,_⟩
 ·refine .inl ⟨hk,?_⟩;by_cases hp:0<Z v c;·exact .inl ⟨I5.2 ⟨h1,h2,h3,by omega,hp⟩,hp⟩
  ·exact .inr ⟨Jb.2 ⟨h1,h2,h3,by omega,hp⟩,by omega⟩
 ·exact absurd hk h3
 ·exact .inr hk
theorem Sv{p:List O}{n:Int}{v:Nat}{l d:Int}{x:List Int}(h:JG p n v l d x){s s':Int}(hf:As (Ba v p) x=true)(GD:∀c∈AK v p,c.1=2→Bs c.1 (c.2.1*Ad v l c) (Ad v l c*Ah (AI v c) x+C3 (Z v c)*s))(Q6:l∣s)(hp:d∣s-s')(DM:∀c∈Ak v p,0≤Ad v l c*Ah (AI v c) x+s')(PW:∀c∈Aj v p,0≤Ad v l c*Ah (AI v c) x-s'):LF p v l x s':=by
 refine⟨hf,λc hc=>?_,?_⟩
 ·rcases h.kind hc with⟨hk,hc'|hc'⟩|hk;·unfold Bs C3;rw[ZGE hk,ZGA (by omega),ZLI];exact DM c hc'.1
  ·unfold Bs C3;rw[ZGE hk,ZGE hc'.2];have :=PW c hc'.1;omega
  ·exact(GD c hc hk).period (by omega) (by omega) (h.hm c hc hk) (sL hp _)
 ·have h1:=ZJw Q6 (ZIi h.hl hp);rwa[show s-(s-s')=s' by omega]at h1
theorem dW{p:List O}{v:Nat}{l:Int}{x:List Int}{s:Int}(h:LF p v l x s){c:O}(hc:c∈Ak v p)(hk:c.1=0):0≤Ad v l c*Ah (AI v c) x+s:=by obtain⟨h1,h2,h3,h4,h5⟩:=I5.1 hc;have :=h.2.1 c (Ck.2 ⟨h1,h2⟩);unfold Bs C3 at this;rwa[ZGE hk,ZGA (by omega),ZLI]at this
theorem dZ{p:List O}{v:Nat}{l:Int}{x:List Int}{s:Int}(h:LF p v l x s){c:O}(hc:c∈Aj v p)(hk:c.1=0):0≤Ad v l c*Ah (AI v c) x-s:=by obtain⟨h1,h2,h3,h4,h5⟩:=Jb.1 hc;have :=h.2.1 c (Ck.2 ⟨h1,h2⟩);unfold Bs C3 at this;rw[ZGE hk,ZGE (by omega)]at this;omega
theorem JG.low0{p:List O}{n:Int}{v:Nat}{l d:Int}{x:List Int}(h:JG p n v l d x){c:O}(hc:c∈Ak v p):c.1=0:=by obtain⟨h1,h2,h3,h4,h5⟩:=I5.1 hc;have :=AG.kind' (h.h.2.1 c h1).1;omega
theorem JG.up0{p:List O}{n:Int}{v:Nat}{l d:Int}{x:List Int}(h:JG p n v l d x){c:O}(hc:c∈Aj v p):c.1=0:=by obtain⟨h1,h2,h3,h4,h5⟩:=Jb.1 hc;have :=AG.kind' (h.h.2.1 c h1).1;omega
theorem ZEv{p:List O}{n:Int}{v:Nat}{l d:Int}{x:List Int}(h:JG p n v l d x)(hS:Ak v p=[]∨Aj v p=[]):Ao (DJ v p (n.toNat-1) l d.toNat) x=true↔∃s,LF p v l x s:=by
 have hd:=h.hd;have hx:=h.hx;have hw:∀j:Nat,∀c∈p,(AI v c).1.length=((List.replicate (n.toNat-1) (0:Int),(j:Int)):AN).1.length:=λj c hc=>by rw[h.len c hc,ZGj];omega
 have hin:Ao (DJ v p (n.toNat-1) l d.toNat) x=true↔∃j:Nat,j<d.toNat∧As (CQ v p l (List.replicate (n.toNat-1) 0,(j:Int)) false) x=true:=by
  unfold DJ;rw[ZGE hS];unfold Ao;rw[ZH8];constructor;·rintro⟨q,hq,h1⟩;obtain⟨j,hj,rfl⟩:=List.mem_map.1 hq;exact⟨j,List.mem_range.1 hj,h1⟩
  ·rintro⟨j,hj,h1⟩;exact⟨_,ZH6 (List.mem_range.2 hj),h1⟩
 rw[hin];constructor
 ·rintro⟨j,hj,hq⟩;rw[VV (hw j),uH]at hq;obtain⟨h1,h2,h3⟩:=hq;obtain⟨M,m0,hM⟩:=WN (λc=>-(Ad v l c*Ah (AI v c) x)) p;have hdM:M+j≤d*(M+j):=Rk hd (by omega);rcases hS with hS|hS;·refine⟨(j:Int)-d*(M+j),Sv h h1 (λc hc hk=>h2 c hc (.inr hk)) h3 ⟨M+j,by omega⟩ (by rw[hS];simp) λc hc=>?_⟩;have :=hM c (Jb.1 hc).1;omega
  ·refine⟨(j:Int)+d*(M+j),Sv h h1 (λc hc hk=>h2 c hc (.inr hk)) h3 ⟨-(M+j),by grind⟩ (λc hc=>?_) (by rw[hS];simp)⟩;have :=hM c (I5.1 hc).1;omega
 ·rintro⟨s,hs⟩;have hm:=ZHQ s (show d≠0 by omega);have Ab:=ZHH s (show 0<d by omega);have hp:d∣s-s%d:=⟨s/d,by have :=ZHT s d;omega⟩;refine⟨(s%d).toNat,by omega,?_⟩;rw[VV (hw _),uH,ZHD hm];refine⟨hs.1,λc hc hk=>?_,?_⟩
  ·have hk:c.1=2:=by simpa using hk
   exact(hs.2.1 c hc).period (by omega) (by omega) (h.hm c hc hk) (sL hp _)
  ·have h1:=ZJw hs.2.2 (ZIi h.hl hp);rwa[show s-(s-s%d)=s%d by omega]at h1
theorem ZEw{p:List O}{n:Int}{v:Nat}{l d:Int}{x:List Int}(h:JG p n v l d x)(hS:¬(Ak v p=[]∨Aj v p=[])):Ao (DJ v p (n.toNat-1) l d.toNat) x=true↔∃s,LF p v l x s:=by
 have hd:=h.hd;have hw:∀c∈p,∀(low:Bool)(j:Nat),∀c'∈p,(AI v c').1.length=(Dx v l c low j).1.length:=λc hc low j c' hc'=>by rw[h.len c' hc',←h.len c hc];unfold Dx Dp;cases low<;>simp
 have hin:Ao (DJ v p (n.toNat-1) l d.toNat) x=true↔∃c∈I7 v p,∃j:Nat,j<d.toNat∧LF p v l x (Ah (Dx v l c (C7 v p) j) x):=by
  unfold DJ;rw[ZGA hS];unfold Ao;rw[ZH8];constructor;·rintro⟨q,hq,h1⟩;obtain⟨c,hc,hq⟩:=List.mem_flatMap.1 hq;obtain⟨j,hj,rfl⟩:=List.mem_map.1 hq;have By:=(Ck.1 (List.mem_filter.1 hc).1).1;obtain⟨k1,k2,k3⟩:=(VV (hw c By _ _)).1 h1;exact⟨c,hc,j,List.mem_range.1 hj,k1,λe he=>k2 e he (.inl rfl),k3⟩
  ·rintro⟨c,hc,j,hj,k1,k2,k3⟩;have By:=(Ck.1 (List.mem_filter.1 hc).1).1;exact⟨_,List.mem_flatMap.2 ⟨c,hc,ZH6 (List.mem_range.2 hj)⟩,(VV (hw c By _ _)).2 ⟨k1,λe he _=>k2 e he,k3⟩⟩
 rw[hin];rw[ZGx]at hS;constructor;·rintro⟨c,hc,j,hj,hq⟩;exact⟨_,hq⟩
 ·rintro⟨s,hs⟩;by_cases DM:C7 v p=true
  ·obtain⟨c,hc,J8⟩:=Up (λc=>-(Ad v l c*Ah (AI v c) x)) _ hS.1;have hcl:=I5.1 hc;have hcs:c∈I7 v p:=by unfold I7;refine List.mem_filter.2 ⟨Ck.2 ⟨hcl.1,hcl.2.1⟩,?_⟩;rw[DM,ZGw];exact⟨hcl.2.2.2.1,ZGB hcl.2.2.2.2⟩
   have hB:=dW hs hc (h.low0 hc);obtain⟨B,NR⟩:∃B,Ad v l c*Ah (AI v c) x=B:=⟨_,rfl⟩;have hm:=ZHQ (s+B) (show d≠0 by omega);have Ab:=ZHH (s+B) (show 0<d by omega);have hle:=XB (a:=s+B) (d:=d) (by omega) (by omega);refine⟨c,hcs,((s+B)%d).toNat,by omega,?_⟩;rw[qC,DM,ZGE rfl,NR,ZHD hm];refine Sv h hs.1 (λe he _=>hs.2.1 e he) hs.2.2 ⟨(s+B)/d,by have :=ZHT (s+B) d;omega⟩ (λe he=>?_) λe he=>?_;·have :=J8 e he;simp only[NR]at this;omega
   ·have :=dZ hs he (h.up0 he);rw[NR]at hB;omega
  ·have DM:C7 v p=false:=by simpa using DM
   obtain⟨c,hc,J8⟩:=Up (λc=>-(Ad v l c*Ah (AI v c) x)) _ hS.2;have hcl:=Jb.1 hc;have hcs:c∈I7 v p:=by unfold I7;refine List.mem_filter.2 ⟨Ck.2 ⟨hcl.1,hcl.2.1⟩,?_⟩;rw[DM,ZGw];exact⟨hcl.2.2.2.1,ZGF hcl.2.2.2.2⟩
   have hB:=dZ hs hc (h.up0 hc);obtain⟨B,NR⟩:∃B,Ad v l c*Ah (AI v c) x=B:=⟨_,rfl⟩;have hm:=ZHQ (B-s) (show d≠0 by omega);have Ab:=ZHH (B-s) (show 0<d by omega);refine⟨c,hcs,((B-s)%d).toNat,by omega,?_⟩;rw[NR]at hB;have hle:=XB (a:=B-s) (d:=d) (by omega) (by omega);rw[qC,DM,ZGA (by simp),NR,ZHD hm];refine Sv h hs.1 (λe he _=>hs.2.1 e he) hs.2.2 ⟨-((B-s)/d),by have :=ZHT (B-s) d;grind⟩ (λe he=>?_) λe he=>?_;·have :=dW hs he (h.low0 he);omega
   ·have :=J8 e he;simp only[NR]at this;omega
theorem ZD(q:List O)(x:List Int):Ao [q] x=As q x:=by unfold Ao;simp
theorem I3{l:List (List O)}{x:List Int}:Ao l x=true↔∃q∈l,As q x=true:=by unfold Ao;rw[ZH8]
theorem ZD5{p:List O}{n:Int}{v:Nat}{x:List Int}{l:List (List O)}(h:pieceN p n)(hx:(x.length:Int)+1=n)(hv:v≤x.length)(hs:Dq p n.toNat v=some l):Ao l x=true↔∃t,JI p v x t:=by
 unfold Dq at hs;split at hs
 ·rename_i hE;cases hs;rcases iJ v p with h1|⟨_,h2,h3,h4⟩;·omega
  ·rw[ZD];exact ZEC h hx hv h2 h3 h4
 ·rename_i hE;have hne:∀c∈p,Z v c≠0→c.1≠1:=by
   rcases Oo v p p.length (ZGR _)with⟨_,h1⟩|⟨h1,_⟩;·intro c hc h0;obtain⟨j,hj,rfl⟩:=Fe (d:=U) hc;exact h1 j hj h0
   ·exact absurd h1 hE
  split at hs;·rename_i hA;cases hs;rw[ZD];exact ZCz h hne hA.1 hA.2
  ·rename_i hA;split at hs
   ·rename_i hX;cases hs;have hD:Cc v p=[]:=by unfold Js at hX;rw[ZGW]at hX;exact List.isEmpty_iff.1 hX.1
    rw[ZD];exact ZDB h hx hv hne hX λhS=>hA ⟨hD,hS⟩
   ·split at hs;·cases hs
    ·rename_i hL;split at hs;·cases hs
     ·rename_i Iv;cases hs;have hL:(Ac v p).2=0:=by simpa using hL
      obtain⟨d1,d2,d3,d4⟩:=Uh (v:=v) (p:=p) (l:=(Ac v p).1) (by simpa using Iv);have kP:JG p n v (Ac v p).1 (Ce v p (Ac v p).1).1 x:=⟨h,hx,hv,hne,d1,d3,d4⟩;by_cases hS:Ak v p=[]∨Aj v p=[];·rw[ZEv kP hS];exact dV hL
      ·rw[ZEw kP hS];exact dV hL
theorem bG{p:List O}{n v:Int}{x:List Int}(h:pieceN p n)(CY:0≤v)(hv:v<n)(hx:(x.length:Int)+1=n)(h0:(BE p n v).2=0):Ao (BE p n v).1 x=true↔∃t,As p (C6 v.toNat t x)=true:=by
 obtain⟨_,_,l,h1,h2⟩:=OI h CY hv h0;have hg:=sM h (v:=v.toNat) (by omega) h1;rw[bV x (λq hq=>(hg.2 q hq).D) h2,ZD5 h hx (by omega) h1];constructor;·rintro⟨t,ht⟩;exact⟨t,(Ub h hx (by omega) t).2 ht⟩
 ·rintro⟨t,ht⟩;exact⟨t,(Ub h hx (by omega) t).1 ht⟩
theorem iB{n v:Int}(CY:0≤v)(hv:v<n){x:List Int}(hx:(x.length:Int)+1=n):∀{l a b:List (List O)},(∀q∈l,pieceN q n)→l.foldlM (MA n v) a=some b→(Ao b x=true↔Ao a x=true∨∃t,Ao l (C6 v.toNat t x)=true)
 |[],a,b,_,h=>by cases h;simp[Ao]|p::l,a,b,hl,h=>by
  rw[ZGc]at h;obtain⟨o,h1,h2⟩:=Option.bind_eq_some_iff.1 h;unfold MA at h1;split at h1;·cases h1
  ·rename_i h0;cases h1;rw[iB CY hv hx (λq hq=>hl q (ZGK _ hq)) h2];have hs:=bG (hl p (by simp)) CY hv hx (by simpa using h0);have e:Ao (a++(BE p n v).1) x=(Ao a x||Ao (BE p n v).1 x):=by unfold Ao;rw[List.any_append]
   rw[e,ZHn,hs];constructor
   ·rintro((h|⟨t,h⟩)|⟨t,h⟩);·exact .inl h
    ·exact .inr ⟨t,I3.2 ⟨p,by simp,h⟩⟩
    ·obtain⟨q,hq,h⟩:=I3.1 h;exact .inr ⟨t,I3.2 ⟨q,ZGK _ hq,h⟩⟩
   ·rintro(h|⟨t,h⟩);·exact .inl (.inl h)
    ·obtain⟨q,hq,h'⟩:=I3.1 h;rcases List.mem_cons.1 hq with e|hq;·exact .inl (.inr ⟨t,by rw[←e];exact h'⟩)
     ·exact .inr ⟨t,I3.2 ⟨q,hq,h'⟩⟩
theorem Ol{s:AM}{v:Int}(h:(Ar s v).2=0):AY s=true∧0≤v∧v<s.1∧(Ar s v).1.1=s.1-1∧AY (Ar s v).1=true∧∀x:List Int,(x.length:Int)+1=s.1→(Ao (Ar s v).1.2 x=true↔∃t,Ao s.2 (C6 v.toNat t x)=true):=by
 unfold Ar at h⊢;split at h;·cases h
 ·rename_i hval;rw[ZGA hval];have hval:AY s=true:=by simpa using hval
  split at h;·cases h
  ·rename_i hr;rw[ZGA hr];split at h;·rename_i hn;exact absurd h hn
   ·rename_i hn;have hn:(AX s).2=0:=by simpa using hn
    rw[ZGA λh'=>h' hn];rcases CN (Oj s.1 v (AX s).1.2)with e|⟨all,e⟩;·rw[e]at h;cases h
    ·simp only[e]at h⊢;rw[hZ]at e;have hb:=AY.b hval;obtain⟨_,k2⟩:=TR (n:=s.1) (v:=v) (by omega) (by omega) (λq hq=>N5 hn hq) e (by simp);obtain⟨out,h2,h3⟩:=Ro h;have ht:(s.1-1).toNat=s.1.toNat-1:=by omega
     have hN:=OT.tid (n:=s.1-1) (by omega) (by omega) (by rw[ht];exact k2) h;refine⟨hval,by omega,by omega,by rw[h3],hN.1,λx hx=>?_⟩;rw[h3];show Ao out x=true↔_;rw[bV x k2 h2,iB (n:=s.1) (v:=v) (by omega) (by omega) hx (λq hq=>N5 hn hq) e];have Bz:¬Ao [] x=true:=by simp[Ao]
     constructor
     ·rintro(h|⟨t,h⟩);·exact absurd h Bz
      ·exact⟨t,by rw[←(N4 _ hn).1];exact h⟩
     ·rintro⟨t,h⟩;exact .inr ⟨t,by rw[(N4 _ hn).1];exact h⟩
theorem ZF:∀(x:List Int)(v:Nat),v<x.length→C6 v (x.getD v 0) (Az x v)=x|[],_,h=>by simp at h|y::x,0,_=>by simp[C6,Az]|y::x,v+1,h=>by have ih:=ZF x v (by simpa using h);show y::C6 v (x.getD v 0) (Az x v)=y::x;rw[ih]
theorem bK{f:List O→Bool×Int}:∀{l:List (List O)},Cm f l=(false,0)→∀q∈l,f q=(false,0)
 |[],_,q,hq=>by cases hq|p::l,h,q,hq=>by
  unfold Cm at h;split at h;·rename_i hc;rw[h]at hc;simp at hc
  ·rename_i hc;rcases List.mem_cons.1 hq with rfl|hq
   ·rw[ZGx]at hc;have h1:(f q).1=false:=by simpa using hc.1
    have h2:(f q).2=0:=by simpa using hc.2
    exact ZIU h1 h2
   ·exact bK h q hq
theorem sW:∀(N:Nat)(p:List O),pieceN p (N:Int)→Bc N p=(false,0)→∀x:List Int,x.length=N→As p x=false
 |0,p,_,h,_,_=>by cases h|N+1,p,hp,h,x,hx=>by
  rw[Pw]at h;obtain⟨c1,c2⟩:=S9 hp (by omega);obtain⟨v,hv⟩:∃v,Cf p ((N+1:Nat):Int)=v:=⟨_,rfl⟩;rw[hv]at h c1 c2;split at h;·rename_i h0;have :(BE p ((N+1:Nat):Int) v).2=0:=ZGr Prod.snd h;exact absurd this h0
  ·rename_i h0;have h0:(BE p ((N+1:Nat):Int) v).2=0:=by simpa using h0
   cases hin:As p x with|false=>rfl|true=>
    have Nv:v.toNat<x.length:=by omega
    have hcl:((Az x v.toNat).length:Int)+1=((N+1:Nat):Int):=by rw[NC Nv];omega
    have hs:=(bG hp c1 c2 hcl h0).2 ⟨x.getD v.toNat 0,by rw[ZF x _ Nv];exact hin⟩;obtain⟨q,hq,h3⟩:=I3.1 hs;have :=sW N q (hp.shadow c1 c2 h0 hq) (bK h q hq) (Az x v.toNat) (by omega);rw[this]at h3;cases h3
theorem iF{s:AM}(h:(DW s).2=0)(h1:(DW s).1=true){x:List Int}(hx:(x.length:Int)=s.1):Ao s.2 x=false:=by
 unfold DW at h h1;split at h;·cases h
 ·rename_i hval;rw[ZGA hval]at h1;split at h;·rename_i hn;exact absurd h hn
  ·rename_i hn;rw[ZGA hn]at h1;have hn:(AX s).2=0:=by simpa using hn
   split at h;·rename_i hs;rw[ZGE hs]at h1;cases h1
   ·rename_i hs;rw[ZGx]at hs;have hs':Cm (Bc s.1.toNat) (AX s).1.2=(false,0):=ZIU (by simpa using hs.1) (by simpa using hs.2);cases hin:Ao s.2 x with|false=>rfl|true=>rw[←(N4 x hn).1]at hin;obtain⟨q,hq,h3⟩:=I3.1 hin;have hp:=N5 hn hq;have h0:=hp.2.2.1;have :=sW s.1.toNat q (by rw[ZHD h0];exact hp) (bK hs' q hq) x (by omega);rw[this]at h3;cases h3
theorem uO{a b:AM}(h:(CS a b).2=0):AY a=true∧AY b=true∧a.1=b.1∧((CS a b).1=true→∀x:List Int,(x.length:Int)=a.1→Ao a.2 x=true→Ao b.2 x=true):=by
 unfold CS at h⊢;split at h;·rename_i hm;exact absurd h hm
 ·rename_i hm;rw[ZGA hm];obtain⟨⟨h1,h2,h3⟩,_,h5,h6⟩:=ZCk (a:=a) (b:=b) (by simpa using hm);refine⟨h1,h2,h3,λht x hx ha=>?_⟩;have :=iF h ht (x:=x) (by rw[h5];exact hx);rw[h6,ha]at this;simpa using this
theorem law05_ElimInside.spec(a b:AM)(x:List Int):law05_ElimInside.wp a b x λr=>r=true:=by unfold law05_ElimInside.wp;dsimp only;rw[show EQ.fn (a,b,())=CS a b from rfl,show F9.fn (a,b,())=Jd a b from rfl,show Cs.fn (a,x,())=Ao a.2 x from rfl,show Cs.fn (b,x,())=Ao b.2 x from rfl,show Es.fn (x,())=x.all DA from rfl,show BF.fn ()=true from rfl];cases Br.fn ((4:Int),((4:Int),((3:Int),([a,b],()))))with|false=>rfl|true=>
 rw[ZGq,ZF9];refine⟨λh=>⟨h,trivial⟩,λh=>⟨h,trivial⟩,λh=>⟨h,h,trivial⟩,λh=>by rw[h];rfl,λh=>⟨h,trivial⟩,λh=>⟨h,trivial⟩,λh=>by rw[h];rfl,?_⟩;by_cases hc:((CS a b).2≠0∨(x.length:Int)≠a.1)∨x.all DA=false;·rw[show((CS a b).2 !=0||((x.length:Nat):Int)!=a.1||! x.all DA)=true by simpa using hc,ZGC]
 ·rw[show((CS a b).2 !=0||((x.length:Nat):Int)!=a.1||! x.all DA)=false by simpa using hc,ZF9];rw[ZGx,ZGx]at hc;obtain⟨⟨h1,h2⟩,h3⟩:=hc;have h1:(CS a b).2=0:=by simpa using h1
  have h2:(x.length:Int)=a.1:=by simpa using h2
  have h3:x.all DA=true:=by simpa using h3
  obtain⟨va,vb,hab,hin⟩:=uO h1;have hS:(Jd a b).2=0→(Jd a b).1=true→(CS a b).1=true∧(CS b a).2=0∧(CS b a).1=true:=λk1 k2=>by
   unfold Jd at k1 k2;split at k1;·rename_i hh;rw[ZGE hh]at k2;cases k2
   ·rename_i hh;rw[ZGA hh]at k2;rw[ZGx]at hh;exact⟨by simpa using hh.2,k1,k2⟩
  refine⟨RZ va (by omega) h3,RZ vb (by omega) h3,λh=>⟨h,trivial⟩,λh=>by rw[h];rfl,λh=>by rw[h];rfl,λh=>⟨h,trivial⟩,λh=>⟨h,trivial⟩,λh=>⟨h,trivial⟩,λh=>⟨h,λh'=>by rw[h,h'];rfl⟩,λh=>⟨h,trivial⟩,λh=>⟨h,trivial⟩,λh=>⟨h,h,trivial⟩,λh=>⟨h,λh'=>by rw[h,h'];rfl⟩,λh=>⟨h,λh'=>by rw[h,h'];rfl⟩,λh=>h,λh=>h,?_⟩;rw[ZIC];have e1:( !(CS a b).1||! Ao a.2 x||Ao b.2 x)=true:=by cases hw:(CS a b).1 with|false=>rfl|true=>cases ha:Ao a.2 x with|false=>rfl|true=>rw[hin hw x h2 ha];rfl
  rw[e1,ZH2];by_cases hs:(Jd a b).2=0
  ·by_cases ht:(Jd a b).1=true
   ·obtain⟨k1,k2,k3⟩:=hS hs ht;obtain⟨_,_,_,ZBP⟩:=uO k2;have e2:Ao a.2 x=Ao b.2 x:=by cases ha:Ao a.2 x with|true=>exact(hin k1 x h2 ha).symm|false=>cases hb:Ao b.2 x with|false=>rfl|true=>rw[ZBP k3 x (by omega) hb]at ha;cases ha
    rw[e2,k1];simp
   ·simp[ht]
  ·simp[hs]
theorem nX(t u:Int):∀(x:List Int)(a b:Nat),a≤b→b≤x.length→C6 a t (C6 b u x)=C6 (b+1) u (C6 a t x)|x,0,b,_,_=>by simp[C6]|[],a+1,b,h,h2=>by simp at h2;omega|y::x,a+1,0,h,_=>by omega|y::x,a+1,b+1,h,h2=>by have ih:=nX t u x a b (by omega) (by simpa using h2);show y::C6 a t (C6 b u x)=y::C6 (b+1) u (C6 a t x);rw[ih]
theorem ZG{x:List Int}{v:Nat}{t:Int}(h:v≤x.length):(C6 v t x).length=x.length+1:=by unfold C6;simp only[ZGI,ZGL,ZGP,ZG1];omega
theorem iD{on:Nat→Bool}:∀{k:Nat}{s:AM},(∀v,v<k→on v=false)→GA on k s=(s,0)|0,s,_=>rfl|k+1,s,h=>by rw[Om,h k (by omega),ZGA (by simp)];exact iD λv hv=>h v (by omega)
theorem XA{on:Nat→Bool}{s:AM}{j:Nat}:∀{k:Nat},j≤k→(∀v,j≤v→v<k→on v=false)→GA on k s=GA on j s
 |0,hj,_=>by rw[show j=0 by omega]|k+1,hj,h=>by
  by_cases e:j=k+1;·rw[e]
  ·rw[Om,h k (by omega) (by omega),ZGA (by simp)];exact XA (by omega) λv h1 h2=>h v h1 (by omega)
theorem ZAS{s:AM}{i j:Int}(hi:0≤i)(hij:i<j)(hj:j<s.1)(hv:AY s=true)(h1:(Ar s j).2=0)(h2:(Ar (Ar s j).1 i).2=0):Io s [i,j]=((Ar (Ar s j).1 i).1,0):=by
 have hp:H0 s.1 [i,j]=true:=by rw[VA];refine⟨λv hv=>?_,by simp;omega⟩;simp only[ZGe,ZIc,ZJZ]at hv;rcases hv with rfl|rfl<;>omega
 have on0:∀v:Nat,(v:Int)≠i→(v:Int)≠j→FH [i,j] v=false:=λv k1 k2=>by unfold FH;simp[k1,k2]
 have on1:∀v:Nat,(v:Int)=i∨(v:Int)=j→FH [i,j] v=true:=λv k=>by unfold FH;simpa using k
 rw[W9 hv hp];obtain⟨J,rfl⟩:∃J:Nat,j=(J:Int):=⟨j.toNat,by omega⟩;obtain⟨I,rfl⟩:∃I:Nat,i=(I:Int):=⟨i.toNat,by omega⟩;rw[XA (j:=J+1) (by omega) λv k1 k2=>on0 v (by omega) (by omega),Om,on1 J (.inr rfl),ZGE rfl,ZGA λh=>h h1];rw[XA (j:=I+1) (by omega) λv k1 k2=>on0 v (by omega) (by omega),Om,on1 I (.inl rfl),ZGE rfl,ZGA λh=>h h2];exact iD λv hv=>on0 v (by omega) (by omega)
theorem law05_ElimOrder.spec(s:AM)(i j:Int)(x:List Int):law05_ElimOrder.wp s i j x λr=>r=true:=by unfold law05_ElimOrder.wp;dsimp only;rw[show BF.fn ()=true from rfl];cases hL:Br.fn ((3:Int),((6:Int),((4:Int),([s],()))))with|false=>simp|true=>
 refine⟨λh=>⟨h,trivial⟩,λ_=>rfl,λh=>⟨h,h,trivial⟩,λh=>by rw[h];rfl,λh=>⟨h,trivial⟩,λh=>⟨h,h,trivial⟩,λh=>by rw[h];rfl,?_⟩;by_cases hr:(i<0∨j≤i)∨s.1≤j;·rw[show( !true||decide (i<0)||decide (j≤i)||decide (s.1≤j))=true by simpa using hr,ZGC]
 ·rw[show( !true||decide (i<0)||decide (j≤i)||decide (s.1≤j))=false by simpa using hr,ZF9];refine⟨λh=>⟨h,trivial⟩,λh=>by rw[h];rfl,?_⟩;simp only[DU.fn];by_cases C1:(Ar s i).2≠0∨(Ar s j).2≠0;·rw[show((Ar s i).2 !=0||(Ar s j).2 !=0)=true by simpa using C1,ZGC];trivial
  ·rw[show((Ar s i).2 !=0||(Ar s j).2 !=0)=false by simpa using C1,ZF9];rw[ZGx]at C1;have h1:(Ar s i).2=0:=by simpa using C1.1
   have h2:(Ar s j).2=0:=by simpa using C1.2
   obtain⟨hval,i0,i1,ei1,ei2,ei3⟩:=Ol h1;obtain⟨_,j0,j1,ej1,ej2,ej3⟩:=Ol h2;have hb:=AY.b hval;refine⟨⟨by omega,by omega⟩,λh=>⟨h,trivial⟩,λh=>by rw[h];rfl,λh=>⟨h,trivial⟩,λh=>⟨h,trivial⟩,λh=>⟨h,by omega,by omega⟩,λh=>⟨h,h,trivial⟩,λh=>by rw[h];rfl,λh=>⟨h,trivial⟩,λh=>⟨h,trivial⟩,λh=>by rw[h];rfl,?_⟩;by_cases hc:(((Ar (Ar s i).1 (j-1)).2≠0∨(Ar (Ar s j).1 i).2≠0)∨(x.length:Int)≠s.1-2)∨x.all DA=false;·rw[show((Ar (Ar s i).1 (j-1)).2 !=0||(Ar (Ar s j).1 i).2 !=0||((x.length:Nat):Int)!=s.1-2||! Es.fn (x,()))=true by simpa using hc,ZGC];trivial
   ·rw[show((Ar (Ar s i).1 (j-1)).2 !=0||(Ar (Ar s j).1 i).2 !=0||((x.length:Nat):Int)!=s.1-2||! Es.fn (x,()))=false by simpa using hc,ZF9];simp only[ZGx]at hc;obtain⟨⟨⟨h3,h4⟩,h5⟩,h6⟩:=hc;have h3:(Ar (Ar s i).1 (j-1)).2=0:=by simpa using h3
    have h4:(Ar (Ar s j).1 i).2=0:=by simpa using h4
    have h5:(x.length:Int)=s.1-2:=by simpa using h5
    have h6:x.all DA=true:=by simpa using h6
    obtain⟨_,_,_,e31,e32,e33⟩:=Ol h3;obtain⟨_,_,_,e41,e42,e43⟩:=Ol h4;have heq:Cs.fn ((Ar (Ar s i).1 (j-1)).1,x,())=Cs.fn ((Ar (Ar s j).1 i).1,x,()):=by
     show Ao (Ar (Ar s i).1 (j-1)).1.2 x=Ao (Ar (Ar s j).1 i).1.2 x;rw[ZHg,e33 x (by omega),e43 x (by omega)];have EJ:∀t,((C6 (j-1).toNat t x).length:Int)+1=s.1:=λt=>by rw[ZG (by omega)];omega
     have G9:∀t,((C6 i.toNat t x).length:Int)+1=s.1:=λt=>by rw[ZG (by omega)];omega
     have kW:∀t u,C6 i.toNat t (C6 (j-1).toNat u x)=C6 j.toNat u (C6 i.toNat t x):=λt u=>by rw[nX t u x i.toNat (j-1).toNat (by omega) (by omega)];congr 1;omega
     constructor;·rintro⟨u,hu⟩;obtain⟨t,ht⟩:=(ei3 _ (EJ u)).1 hu;exact⟨t,(ej3 _ (G9 t)).2 ⟨u,by rw[←kW];exact ht⟩⟩
     ·rintro⟨t,ht⟩;obtain⟨u,hu⟩:=(ej3 _ (G9 t)).1 ht;exact⟨u,(ei3 _ (EJ u)).2 ⟨t,by rw[kW];exact hu⟩⟩
    have hE:Ft.fn (s,[i,j],())=((Ar (Ar s j).1 i).1,0):=ZAS i0 (by omega) j1 hval h2 h4;rw[heq,hE];refine⟨RZ e32 (by omega) h6,RZ e42 (by omega) h6,λh=>⟨h,trivial⟩,λh=>h,λh=>⟨h,h,trivial⟩,λh=>h,λh=>h,?_⟩;simp[Et.fn]
abbrev EM.fn(x:Int×Int×Unit):Int×Int:=if x.2.1<1 then(0,1)else(-(-x.1/x.2.1),0)
abbrev EM.pre(x:Int×Int×Unit):Prop:=-2305843009213693952≤x.1∧x.1≤2305843009213693952
abbrev Fa.fn(x:List O×Int×List Int×Unit):List O:=x.1.map λc=>(c.1,c.2.1,[Z x.2.1.toNat c],Ah (AI x.2.1.toNat c) x.2.2.1)
abbrev Fa.pre(x:List O×Int×List Int×Unit):Prop:=(∀c∈x.1,AG c=true∧c.2.2.1.length=x.2.2.1.length+1)∧x.1.length≤4096∧(0≤x.2.1∧x.2.1≤(x.2.2.1.length:Int))∧x.2.2.1.all DA=true
def Ik(c:O):Bool:=decide (c.1≠2)&&(decide (Z 0 c=0)&&( decide (c.1=0)&&decide (c.2.2.2<0)||decide (c.1=1)&&decide (c.2.2.2≠0)))
def HV(p:List O):List Int:=1::(p.filter λc=>decide (c.1=2)).map λc=>c.2.1
def Li(p:List O)(t:Int):Prop:=∀c∈p,Bs c.1 c.2.1 (c.2.2.2+Z 0 c*t)
open Classical in
noncomputable def Je (p : List O) : Bool × Bool := if p.any Ik = true then (false, true) else if (DE (HV p)).2 ≠ 0 then (false, false) else (decide (∃ t, Li p t), true)
noncomputable abbrev FE.fn(x:List O×Unit):Bool×Bool:=Je x.1
def Zr(c:O):Prop:=c.2.2.1.length=1∧(c.1=0∨c.1=1∨c.1=2∧1≤c.2.1∧c.2.1≤512)∧(-1048576≤Z 0 c∧Z 0 c≤1048576)∧-1152921504606846976≤c.2.2.2∧c.2.2.2≤1152921504606846976
abbrev FE.pre(x:List O×Unit):Prop:=x.1.length≤4096∧∀c∈x.1,Zr c
set_option maxRecDepth 4000
def EM.wp(x0:Int)(x1:Int)(Q:Int×Int→Prop):Prop:=cond (decide (x1<1)) (Q (0,1)) ((x1≠0∧AA .i64 (Int.tdiv x0 x1))∧x1≠0∧cond (decide (0<Int.tmod x0 x1)) (AA .i64 (Int.tdiv x0 x1+1)∧Q ( Int.tdiv x0 x1+1,0)) (Q (Int.tdiv x0 x1,0)))
def Fa.wp(x0:List O)(x1:Int)(x2:List Int)(Q:List O→Prop):Prop:=Lp (σ:=Int×List O) (λy4 R4=>let v0:=x0.getD y4.1.toNat U;cond (decide (y4.1<x0.length)) ((0≤y4.1∧y4.1<x0.length)∧(0≤x1∧x1<v0.2.2.1.length)∧Lp (σ:=O) (λy6 R6=>let v2:=v0.2.2.1.getD y6.1.toNat 0;let v3:=x2.getD y6.2.1.toNat 0;let v4:=[(v0.1,(v0.2.1,y6.2.2))];cond (decide (y6.1<v0.2.2.1.length)) ((0≤y6.1∧y6.1<v0.2.2.1.length)∧cond (y6.1 !=x1) ((0≤y6.2.1∧y6.2.1<x2.length)∧AA .i64 (v2*v3)∧AA .i64 (y6.2.2.2+v2*v3)∧AA .i64 (y6.2.1+1)∧AA .i64 (y6.1+1)∧R6 ( y6.1+1,( y6.2.1+1,(y6.2.2.1,y6.2.2.2+v2*v3)))) (AA .i64 (y6.1+1)∧R6 ( y6.1+1,y6.2))) (((y4.2.length+v4.length)*48≤140737488355328∧y4.2.length+v4.length≤9223372036854775807)∧AA .i64 (y4.1+1)∧R4 ( y4.1+1,y4.2++v4))) (0,(0,([v0.2.2.1.getD x1.toNat 0],v0.2.2.2)))) (Q y4.2)) (0,([]:List O))
def FE.wp(x0:List O)(Q:Bool×Bool→Prop):Prop:=2=List.length (.replicate 2 false)∧Lp (σ:=Int×Int×Int×List Int×List Bool) (λy2 R2=>let v1:=x0.getD y2.1.toNat U;let v2:=v1.2.2.1.getD (Int.toNat 0) 0;let v5:=y2.2.2.2.2.getD (Int.toNat 0) false;let v12:=Dc.fn (y2.2.2.2.1,());let v13:=y2.2.2.2.2.getD (Int.toNat 1) false;cond (decide (y2.1<x0.length)) (Ge (σ:=Bool×Bool×Int×Int×Int×Int×Int×List Int×O×Int×Int×List Int×List Bool) (λy4=>AA .i64 (y2.1+1)∧R2 ( y2.1+1,y4.2.2.2.2.2.2.2.2.2)) λJ4=>(0≤y2.1∧y2.1<x0.length)∧(0≤(0:Int)∧0<(v1.2.2.1.length:Int))∧cond (v1.1==2) (((y2.2.2.2.1.length+List.length [v1.2.1])*8≤140737488355328∧y2.2.2.2.1.length+List.length [v1.2.1]≤9223372036854775807)∧J4 ( v1.1==2,( v1.1==2,(v1.1,(v1.2.2.2,(v2,(v1.2.2.2,(v2,(v1.2.2.1,(v1,(y2.2.1,(y2.2.2.1,( y2.2.2.2.1++[v1.2.1],y2.2.2.2.2))))))))))))) (cond (v2==0) (((v1.1==0)=true→(v1.1==0)=true∧True)∧((v1.1==0)=true→(v1.1==0)=true)∧((!( v1.1==0&&decide (v1.2.2.2<0)))=true→(!( v1.1==0&&decide (v1.2.2.2<0)))=true∧True)∧((!( v1.1==0&&decide (v1.2.2.2<0)))=true→(!( v1.1==0&&decide (v1.2.2.2<0)))=true∧True)∧((!( v1.1==0&&decide (v1.2.2.2<0)))=true→(!( v1.1==0&&decide (v1.2.2.2<0)))=true∧True)∧(( !( v1.1==0&&decide (v1.2.2.2<0))&&v1.1==1)=true→( !( v1.1==0&&decide (v1.2.2.2<0))&&v1.1==1)=true∧True)∧((!( v1.1==0&&decide (v1.2.2.2<0)))=true→(!( v1.1==0&&decide (v1.2.2.2<0)))=true∧((v1.1==1)=true→( !( v1.1==0&&decide (v1.2.2.2<0))&&v1.1==1)=true))∧(( v1.1==0&&decide (v1.2.2.2<0))=false→(!( v1.1==0&&decide (v1.2.2.2<0)))=true)∧cond ( v1.1==0&&decide (v1.2.2.2<0)||v1.1==1&&v1.2.2.2 !=0) (Q (false,true)) (J4 ( v1.1==2,( v1.1==2,(v1.1,(v1.2.2.2,(v2,(v1.2.2.2,(v2,(v1.2.2.1,(v1,y2.2))))))))))) (Ge (λy5=>let v9:=y5.2.2.2.2.2.length;let v10:=y5.2.2.2.2.2.getD (Int.toNat 1) false;((! decide (v2<0))=true→(! decide (v2<0))=true∧True)∧((! decide (v2<0))=true→(! decide (v2<0))=true∧True)∧(decide (v2<0)=false→(! decide (v2<0))=true)∧cond (decide (v2<0)||v1.1==1) (AA .i64 (-v2)∧Dl.pre (v1.2.2.2,(-v2,()))∧Ge (λy6=>(0≤(1:Int)∧1<((2:Nat):Int))∧Int.toNat 1<v9∧((! !v10)=true→(! !v10)=true∧(! !v10)=true∧True)∧((!v10)=false→(! !v10)=true)∧cond ( !v10||decide (y6.1<y2.2.1)) ((0≤(1:Int)∧1<((2:Nat):Int))∧Int.toNat 1<v9∧J4 ( v1.1==2,( v1.1==2,(v1.1,(v1.2.2.2,(v2,(v1.2.2.2,(v2,(v1.2.2.1,(v1,(y6.1,(y5.1,(y2.2.2.2.1,List.set y5.2.2.2.2.2 (Int.toNat 1) true))))))))))))) (J4 ( v1.1==2,( v1.1==2,(v1.1,(v1.2.2.2,(v2,(v1.2.2.2,(v2,(v1.2.2.1,(v1,(y2.2.1,(y5.1,(y2.2.2.2.1,y5.2.2.2.2.2)))))))))))))) λJ6=>cond (decide (0<v2)) (AA .i64 (-v1.2.2.2)∧Dl.pre (-v1.2.2.2,(v2,()))∧J6 ((Dl.fn (-v1.2.2.2,(v2,()))).1,(decide (0<v2),v2))) (J6 ((Dl.fn (v1.2.2.2,(-v2,()))).1,(decide (0<v2),v2)))) (J4 ( v1.1==2,( v1.1==2,(v1.1,(v1.2.2.2,(v2,(v1.2.2.2,(v2,(v1.2.2.1,(v1,(y2.2.1,(y5.1,(y2.2.2.2.1,y5.2.2.2.2.2)))))))))))))) λJ5=>((! decide (0<v2))=true→(! decide (0<v2))=true∧True)∧((! decide (0<v2))=true→(! decide (0<v2))=true∧True)∧(decide (0<v2)=false→(! decide (0<v2))=true)∧cond (decide (0<v2)||v1.1==1) (AA .i64 (-v1.2.2.2)∧EM.pre (-v1.2.2.2,(v2,()))∧Ge (λy6=>(0≤(0:Int)∧0<((2:Nat):Int))∧Int.toNat 0<y2.2.2.2.2.length∧((! !v5)=true→(! !v5)=true∧(! !v5)=true∧True)∧((!v5)=false→(! !v5)=true)∧cond ( !v5||decide (y2.2.2.1<y6.1)) ((0≤(0:Int)∧0<((2:Nat):Int))∧Int.toNat 0<y2.2.2.2.2.length∧J5 (y6.1,( decide (0<v2)||v1.1==1,(decide (0<v2),(decide (0<v2),(v2,List.set y2.2.2.2.2 (Int.toNat 0) true)))))) (J5 (y2.2.2.1,( decide (0<v2)||v1.1==1,(decide (0<v2),(decide (0<v2),(v2,y2.2.2.2.2))))))) λJ6=>cond (decide (v2<0)) (AA .i64 (-v2)∧EM.pre (v1.2.2.2,(-v2,()))∧J6 ((EM.fn (v1.2.2.2,(-v2,()))).1,(decide (v2<0),v2))) (J6 ((EM.fn (-v1.2.2.2,(v2,()))).1,(decide (v2<0),v2)))) (J5 (y2.2.2.1,( decide (0<v2)||v1.1==1,(decide (0<v2),(decide (0<v2),(v2,y2.2.2.2.2))))))))) (Dc.pre (y2.2.2.2.1,())∧cond (v12.2 !=0) (Q (false,false)) (Ge (λy4=>Lp (λy5 R5=>AA .i64 (y4.1+v12.1)∧(decide (y5<y4.1+v12.1)=true→0≤(1:Int)∧1<((2:Nat):Int))∧(decide (y5<y4.1+v12.1)=true→decide (y5<y4.1+v12.1)=true∧Int.toNat 1<y2.2.2.2.2.length)∧(decide (y5<y4.1+v12.1)=true→decide (y5<y4.1+v12.1)=true∧True)∧(decide (y5<y4.1+v12.1)=true→decide (y5<y4.1+v12.1)=true∧True)∧((decide (y5<y4.1+v12.1)&&! !v13)=true→(decide (y5<y4.1+v12.1)&&! !v13)=true∧(decide (y5<y4.1+v12.1)&&! !v13)=true∧True)∧(decide (y5<y4.1+v12.1)=true→decide (y5<y4.1+v12.1)=true∧((!v13)=false→(decide (y5<y4.1+v12.1)&&! !v13)=true))∧(decide (y5<y4.1+v12.1)=true→decide (y5<y4.1+v12.1)=true)∧cond (decide (y5<y4.1+v12.1)&&( !v13||decide (y5≤y2.2.1))) (Lp (σ:=Int×Bool) (λy7 R7=>let v14:=x0.getD y7.1.toNat U;let v15:=v14.2.2.1.getD (Int.toNat 0) 0;let v16:=C9.fn (v15,(v14.2.1,()));let v17:=C9.fn (y5,(v14.2.1,()));let v18:=C9.fn (v14.2.2.2,(v14.2.1,()));cond (decide (y7.1<x0.length)) ((0≤y7.1∧y7.1<x0.length)∧cond (v14.1==2) (C9.pre (y5,(v14.2.1,()))∧(0≤(0:Int)∧0<(v14.2.2.1.length:Int))∧C9.pre (v15,(v14.2.1,()))∧C9.pre (v14.2.2.2,(v14.2.1,()))∧(y7.2=true→y7.2=true∧y7.2=true∧AA .i64 (v16.1*v17.1))∧(y7.2=true→y7.2=true∧y7.2=true∧AA .i64 ( v16.1*v17.1+v18.1))∧(y7.2=true→y7.2=true∧True)∧(y7.2=true→y7.2=true∧y7.2=true∧v14.2.1≠0)∧(y7.2=true→y7.2=true∧True)∧(y7.2=true→y7.2=true)∧AA .i64 (y7.1+1)∧R7 ( y7.1+1,y7.2&&Int.tmod ( v16.1*v17.1+v18.1) v14.2.1==0)) (AA .i64 (y7.1+1)∧R7 ( y7.1+1,y7.2))) (cond y7.2 (Q (true,true)) (AA .i64 (y5+1)∧R5 (y5+1)))) (0,true)) (Q (false,true))) y4.1) λJ4=>(0≤(0:Int)∧0<((2:Nat):Int))∧Int.toNat 0<y2.2.2.2.2.length∧cond (!v5) (AA .i64 (y2.2.1-v12.1)∧AA .i64 ( y2.2.1-v12.1+1)∧(0≤(1:Int)∧1<((2:Nat):Int))∧Int.toNat 1<y2.2.2.2.2.length∧cond (!v13) (J4 (0,( !v5,v5))) (J4 ( y2.2.1-v12.1+1,( !v5,v5)))) (J4 (y2.2.2.1,( !v5,v5)))))) (0,(0,(0,([1],[false,false]))))
def law05_ElimPoints.wp(x0:Int×List (List O))(x1:Int)(x2:List Int)(Q:Bool→Prop):Prop:=let v1:=DU.fn (x0,(x1,()));let v4:=Cs.fn (v1.1,(x2,()));cond (! CH.fn (6,(10,([x0],())))) (Q (BF.fn ())) (( ! v1.2 !=0=true→! v1.2 !=0=true∧True)∧( ! v1.2 !=0=true→! v1.2 !=0=true∧True)∧((! v1.2 !=0)=true→! v1.2 !=0=true∧AA .i64 (x0.1-1))∧( ! v1.2 !=0=true→! v1.2 !=0=true∧! v1.2 !=0=true∧True)∧((v1.2 !=0)=false→(! v1.2 !=0)=true)∧((!( v1.2 !=0||x2.length !=x0.1-1))=true→(!( v1.2 !=0||x2.length !=x0.1-1))=true∧True)∧((!( v1.2 !=0||x2.length !=x0.1-1))=true→(!( v1.2 !=0||x2.length !=x0.1-1))=true∧True)∧(( v1.2 !=0||x2.length !=x0.1-1)=false→(!( v1.2 !=0||x2.length !=x0.1-1))=true)∧cond ( v1.2 !=0||x2.length !=x0.1-1||! Es.fn (x2,())) (Q (BF.fn ())) (Lp (σ:=Int×Bool) (λy4 R4=>let v2:=x0.2.getD y4.1.toNat ([]:List O);let v3:=Fa.fn (v2,(x1,(x2,())));cond (decide (y4.1<x0.2.length)) ((0≤y4.1∧y4.1<x0.2.length)∧Fa.pre (v2,(x1,(x2,())))∧FE.pre (v3,())∧cond (!(FE.fn (v3,())).2) (Q (BF.fn ())) ((y4.2=false→(!y4.2)=true)∧AA .i64 (y4.1+1)∧R4 ( y4.1+1,y4.2||(FE.fn (v3,())).1))) (Cs.pre (v1.1,(x2,()))∧((v4==y4.2)=true→(v4==y4.2)=true)∧Q ( v4==y4.2&&BF.fn ()))) (0,false)))
theorem TN{a b q r:Int}(h:r+b*q=a)(h0:0≤r)(h1:r<b):a/b=q:=((Int.ediv_emod_unique (by omega)).2 ⟨h,h0,h1⟩).1
theorem ZEg{a b:Int}(hb:1≤b):-(-a/b)=if 0<a.tmod b then a.tdiv b+1 else a.tdiv b:=by
 have h1:=Int.mul_tdiv_add_tmod a b;have h2:=ZJP a (show 0<b by omega);have h3:-b<a.tmod b:=by have :=ZJP (-a) (show 0<b by omega);rw[Int.neg_tmod]at this;omega
 obtain⟨q,hq⟩:∃q,a.tdiv b=q:=⟨_,rfl⟩;obtain⟨r,hr⟩:∃r,a.tmod b=r:=⟨_,rfl⟩;rw[hq,hr]at h1;rw[hr]at h2 h3;rw[hq,hr];have e1:b*(-q-1)=-(b*q)-b:=by grind
 have e2:b*-q=-(b*q):=by grind
 split;·have :-a/b=-q-1:=TN (r:=b-r) (by omega) (by omega) (by omega);rw[this];omega
 ·have :-a/b=-q:=TN (r:=-r) (by omega) (by omega) (by omega);rw[this];omega
theorem EM.spec(a b:Int)(hp:EM.pre (a,b,())):EM.wp a b λr=>r=EM.fn (a,b,()):=by
 obtain⟨h1,h2⟩:-2305843009213693952≤a∧a≤2305843009213693952:=hp;unfold EM.wp;rw[show EM.fn (a,b,())=if b<1 then(0,1)else(-(-a/b),0)from rfl];by_cases hb:b<1;·rw[ZGB hb,ZGC,ZGE hb]
 ·rw[ZGF hb,ZF9,ZGA hb,ZEg (by omega)];have hq:-2305843009213693952≤a.tdiv b∧a.tdiv b≤2305843009213693952:=by have k1:=Int.natAbs_tdiv_le_natAbs a b;omega
  refine⟨⟨by omega,by omega,by omega⟩,by omega,?_⟩;by_cases hm:0<a.tmod b;·rw[ZGB hm,ZGC,ZGE hm];exact⟨⟨by omega,by omega⟩,rfl⟩
  ·rw[ZGF hm,ZF9,ZGA hm]
def ix(v i:Nat):Nat:=if i≤v then i else i-1
theorem Wb{C:List Int}{v i:Nat}(h:i<C.length)(hi:i≠v):(Az C v).getD (ix v i) 0=C.getD i 0:=by
 unfold Az ix;rw[ZGG,ZGG];by_cases e:i≤v;·rw[ZGE e,ZHK (by rw[ZGP];omega),ZGg,ZGE (by omega)]
 ·rw[ZGA e,ZG5 (by rw[ZGP];omega),ZGP,ZHy];congr 2;omega
theorem ZDK{a b:Int}(ha:-1048576≤a∧a≤1048576)(hb:-4294967296≤b∧b≤4294967296):-4503599627370496≤a*b∧a*b≤4503599627370496:=by have h:=ZKY a b;have h2:a.natAbs*b.natAbs≤1048576*4294967296:=ZIE (by omega) (by omega);omega
theorem Fa.spec(p:List O)(v:Int)(x:List Int)(hp:Fa.pre (p,v,x,())):Fa.wp p v x λr=>r=Fa.fn (p,v,x,()):=by
 obtain⟨hc,hlen,⟨CY,hv⟩,hx⟩:(∀c∈p,AG c=true∧c.2.2.1.length=x.length+1)∧p.length≤4096∧(0≤v∧v≤(x.length:Int))∧x.all DA=true:=hp;have hx':∀n∈x,-4294967296≤n∧n≤4294967296:=λn hn=>by have :=List.all_eq_true.1 hx n hn;simpa[DA]using this
 obtain⟨V,rfl⟩:∃V:Nat,v=(V:Int):=⟨v.toNat,by omega⟩;unfold Fa.wp;dsimp only;rw[show Fa.fn (p,(V:Int),x,())=p.map λc=>(c.1,c.2.1,[Z V c],Ah (AI V c) x)from rfl];refine Lp.iter p.length (λi y=>y.1=(i:Int)∧y.2=(p.take i).map λc=>(c.1,c.2.1,[Z V c],Ah (AI V c) x)) ⟨rfl,rfl⟩ ?_;rintro i⟨y,o⟩hi⟨hy,ho⟩R hR;simp only at hy ho;subst hy ho;dsimp only;by_cases e:i<p.length
 ·have e':(i:Int)<((p.length:Nat):Int):=by omega
  rw[ZGB e',ZGC,ZGD];have Cd:=hc _ (AV (d:=U) e);have Bb:=B0 U e;obtain⟨c,Iu⟩:∃c,p.getD i U=c:=⟨_,rfl⟩;rw[Iu]at Cd Bb⊢;obtain⟨JQ,hcl⟩:=Cd;obtain⟨l12,lb,lk⟩:=Bo.b (AG.lin JQ);refine⟨⟨by omega,e'⟩,⟨by omega,by omega⟩,?_⟩;have LU:(Az c.2.2.1 V).length=x.length:=TG hcl (by omega);refine Lp.iter c.2.2.1.length (λj z=>z.1=(j:Int)∧z.2.1=(ix V j:Int)∧z.2.2.1=[Z V c]∧z.2.2.2=c.2.2.2+A0 ((Az c.2.2.1 V).take (ix V j)) (x.take (ix V j))∧-(1048576+4503599627370496*(j:Int))≤z.2.2.2∧z.2.2.2≤1048576+4503599627370496*(j:Int)) ⟨rfl,by simp[ix],by rw[ZGD];rfl,by simp[ix,A0],by simp only;omega,by simp only;omega⟩ ?_;rintro j⟨z,k,C,acc⟩hj⟨hz,hk,hC,NS,Gm,hb2⟩R2 BJ;simp only at hz hk hC NS Gm hb2;subst hz hk hC;dsimp only;by_cases ej:j<c.2.2.1.length
  ·have ej':(j:Int)<((c.2.2.1.length:Nat):Int):=by omega
   rw[ZGB ej',ZGC,ZGD,ZGD];refine⟨⟨by omega,ej'⟩,?_⟩;by_cases lT:j=V
   ·subst lT;rw[show(((j:Nat):Int)!=(j:Int))=false by simp,ZF9];refine⟨⟨by omega,by omega⟩,BJ ej _ ⟨by simp,?_,rfl,?_,by simp only;omega,by simp only;omega⟩⟩;·simp only[ix];rw[ZGE (ZGR _),ZGA (by omega)];omega
    ·simp only[ix]at NS⊢;rw[ZGE (ZGR _)]at NS;rw[ZGA (by omega),NS];rfl
   ·rw[show(((j:Nat):Int)!=(V:Int))=true by simpa using show¬(j:Int)=(V:Int)by omega,ZGC];have YS:ix V j<x.length:=by unfold ix;split<;>omega
    have lP:ix V (j+1)=ix V j+1:=by unfold ix;split<;>split<;>omega
    have Kl:=ZDK (Xa (P:=λn=>-1048576≤n∧n≤1048576) lb (by omega)) (hx' _ (AV (d:=0) YS)) (a:=c.2.2.1.getD j 0);obtain⟨P,hP⟩:∃P,c.2.2.1.getD j 0*x.getD (ix V j) 0=P:=⟨_,rfl⟩;rw[hP]at Kl⊢;have ZFv:(j:Int)<12:=by omega
    refine⟨⟨by omega,by omega⟩,⟨by omega,by omega⟩,⟨by omega,by omega⟩,⟨by omega,by omega⟩,⟨by omega,by omega⟩,BJ ej _ ⟨by simp,?_,rfl,?_,by simp only;omega,by simp only;omega⟩⟩;·simp only;rw[lP];omega
    ·simp only;rw[lP,gT (by rw[LU];exact YS) YS,Wb ej lT,hP,NS];omega
  ·have :j=c.2.2.1.length:=by omega
   subst this;rw[ZGF (ZGH _),ZF9];have JU:ix V c.2.2.1.length=x.length:=by unfold ix;rw[ZGA (by omega)];omega
   rw[JU,←LU,ZGN,LU,ZGN]at NS;have hval:acc=Ah (AI V c) x:=NS;refine⟨⟨?_,?_⟩,⟨by omega,by omega⟩,hR e _ ⟨by simp,?_⟩⟩;·simp only[ZGM,ZGP,ZGL,ZGS];omega
   ·simp only[ZGM,ZGP,ZGL,ZGS];omega
   ·simp only;rw[Bb,ZGp,hval];rfl
 ·have :i=p.length:=by omega
  subst this;rw[ZGF (ZGH _),ZF9,ZGN]
theorem XY{a k t:Int}(ha:0<a):0≤k+a*t↔-(k/a)≤t:=by
 have h:=ZI3 (a:=-t) (b:=k) ha;have e:-t*a=-(a*t):=by grind
 rw[e]at h;constructor;·intro h1;have :=h.2 (by omega);omega
 ·intro h1;have :=h.1 (by omega);omega
theorem ZS{b k t:Int}(hb:0<b):0≤k-b*t↔t≤k/b:=by
 have h:=ZI3 (a:=t) (b:=k) hb;have e:t*b=b*t:=by grind
 rw[e]at h;constructor;·intro h1;exact h.2 (by omega)
 ·intro h1;have :=h.1 h1;omega
def IU(c:O):Int:=if Z 0 c<0 then-(-c.2.2.2/ -Z 0 c)else-(c.2.2.2/Z 0 c)
def Ig(c:O):Int:=if 0<Z 0 c then-c.2.2.2/Z 0 c else c.2.2.2/ -Z 0 c
theorem ZCy{c:O}(h0:Z 0 c≠0)(hk:c.1=0∨c.1=1)(t:Int):Bs c.1 c.2.1 (c.2.2.2+Z 0 c*t)↔( 0<Z 0 c∨c.1=1→IU c≤t)∧( Z 0 c<0∨c.1=1→t≤Ig c):=by
 unfold Bs IU Ig;obtain⟨a,ha⟩:∃a,Z 0 c=a:=⟨_,rfl⟩;obtain⟨k,T6⟩:∃k,c.2.2.2=k:=⟨_,rfl⟩;rw[ha]at h0;rw[ha,T6];have en:-a*t=-(a*t):=by grind
 by_cases hp:0<a
 ·have h1:=XY (a:=a) (k:=k) (t:=t) hp;have h2:=ZS (b:=a) (k:=-k) (t:=t) hp;rw[ZGA (show¬a<0 by omega),ZGE hp];rcases hk with hk|hk;·rw[ZGE hk,h1];exact⟨λh=>⟨λ_=>h,λh'=>by omega⟩,λh=>h.1 (.inl hp)⟩
  ·rw[ZGA (by omega),ZGE hk,←h1,←h2];exact⟨λh=>⟨λ_=>by omega,λ_=>by omega⟩,λh=>by have :=h.1 (.inr hk);have :=h.2 (.inr hk);omega⟩
 ·have hn:0< -a:=by omega
  have h1:=XY (a:=-a) (k:=-k) (t:=t) hn;have h2:=ZS (b:=-a) (k:=k) (t:=t) hn;rw[ZGE (show a<0 by omega),ZGA hp];rw[en]at h1 h2;rcases hk with hk|hk;·rw[ZGE hk,←h2];exact⟨λh=>⟨λh'=>by omega,λ_=>by omega⟩,λh=>by have :=h.2 (.inl (by omega));omega⟩
  ·rw[ZGA (by omega),ZGE hk,←h1,←h2];exact⟨λh=>⟨λ_=>by omega,λ_=>by omega⟩,λh=>by have :=h.1 (.inr hk);have :=h.2 (.inr hk);omega⟩
theorem Of{a b M:Int}(h:-M≤a∧a≤M):-M≤a/b∧a/b≤M:=by have :=Int.natAbs_ediv_le_natAbs a b;omega
theorem ZCZ{c:O}{M:Int}(h:-M≤c.2.2.2∧c.2.2.2≤M):-M≤IU c∧IU c≤M:=by
 unfold IU;split;·have :=Of (a:=-c.2.2.2) (b:=-Z 0 c) (M:=M) (by omega);omega
 ·have :=Of (a:=c.2.2.2) (b:=Z 0 c) (M:=M) h;omega
theorem ZEz{c:O}{M:Int}(h:-M≤c.2.2.2∧c.2.2.2≤M):-M≤Ig c∧Ig c≤M:=by
 unfold Ig;split;·exact Of (by omega)
 ·exact Of h
theorem ZCn{a k n M:Int}(hM:1≤M):M∣a%M*(n%M)+k%M↔M∣k+a*n:=by
 have h1:=ZHT a M;have h2:=ZHT n M;have h3:=ZHT k M;obtain⟨ra,PR⟩:∃r,a%M=r:=⟨_,rfl⟩;obtain⟨rn,UM⟩:∃r,n%M=r:=⟨_,rfl⟩;obtain⟨rk,mO⟩:∃r,k%M=r:=⟨_,rfl⟩;obtain⟨qa,Nn⟩:∃r,a/M=r:=⟨_,rfl⟩;obtain⟨qn,hqn⟩:∃r,n/M=r:=⟨_,rfl⟩;obtain⟨qk,UL⟩:∃r,k/M=r:=⟨_,rfl⟩;rw[PR,Nn]at h1;rw[UM,hqn]at h2;rw[mO,UL]at h3;rw[PR,UM,mO];have e:k+a*n=ra*rn+rk+M*(ra*qn+qa*n+qk):=by subst h1 h3;have :n=rn+M*qn:=h2.symm;rw[this];grind
 have hd:M∣M*(ra*qn+qa*n+qk):=ZIH _ _;rw[e];constructor;·intro h;exact Int.dvd_add h hd
 ·intro h;have :=ZJw h hd;rwa[Int.add_sub_cancel]at this
structure SI(p:List O)(i:Nat)(hi lo:Int)(mods:List Int)(b0 b1:Bool):Prop where
 nb:∀c∈p.take i,Ik c=false
 md:mods=HV (p.take i)
 g:∀t:Int,(∀c∈p.take i,c.1≠2→Bs c.1 c.2.1 (c.2.2.2+Z 0 c*t))↔(b0=true→lo≤t)∧(b1=true→t≤hi)
 lb:-1152921504606846976≤lo∧lo≤1152921504606846976
 hb:-1152921504606846976≤hi∧hi≤1152921504606846976
theorem SI.nil(p:List O):SI p 0 0 0 [1] false false:=⟨by simp,rfl,λt=>by simp,by omega,by omega⟩
theorem SI.div{p:List O}{i:Nat}{hi lo:Int}{mods:List Int}{b0 b1:Bool}(h:SI p i hi lo mods b0 b1)(e:i<p.length)(hk:(p.getD i U).1=2):SI p (i+1) hi lo (mods++[(p.getD i U).2.1]) b0 b1:=by
 have Bb:=B0 U e;obtain⟨c0,Be⟩:∃c0,p.getD i U=c0:=⟨_,rfl⟩;rw[Be]at Bb hk⊢;refine⟨λc hc=>?_,?_,λt=>?_,h.lb,h.hb⟩
 ·rw[Bb]at hc;rcases List.mem_append.1 hc with hc|hc;·exact h.nb c hc
  ·rw[List.mem_singleton.1 hc];unfold Ik;simp[hk]
 ·rw[h.md,Bb];unfold HV;rw[ZG9,ZGp,ZHb];congr 2;simp[hk]
 ·rw[←h.g t,Bb];constructor;·intro hh c hc;exact hh c (List.mem_append.2 (.inl hc))
  ·intro hh c hc h2;rcases List.mem_append.1 hc with hc|hc;·exact hh c hc h2
   ·rw[List.mem_singleton.1 hc]at h2;exact absurd hk h2
theorem SI.ge{p:List O}{i:Nat}{hi lo:Int}{mods:List Int}{b0 b1:Bool}(h:SI p i hi lo mods b0 b1)(e:i<p.length)(hk:(p.getD i U).1≠2)(Ht:Ik (p.getD i U)=false){hi' lo':Int}{b0' b1':Bool}(hg:∀t:Int,(b0'=true→lo'≤t)∧(b1'=true→t≤hi')↔((b0=true→lo≤t)∧(b1=true→t≤hi))∧Bs (p.getD i U).1 (p.getD i U).2.1 ((p.getD i U).2.2.2+Z 0 (p.getD i U)*t))(hl:-1152921504606846976≤lo'∧lo'≤1152921504606846976)(hh:-1152921504606846976≤hi'∧hi'≤1152921504606846976):SI p (i+1) hi' lo' mods b0' b1':=by
 have Bb:=B0 U e;obtain⟨c0,Be⟩:∃c0,p.getD i U=c0:=⟨_,rfl⟩;rw[Be]at Bb hk Ht;simp only[Be]at hg;refine⟨λc hc=>?_,?_,λt=>?_,hl,hh⟩
 ·rw[Bb]at hc;rcases List.mem_append.1 hc with hc|hc;·exact h.nb c hc
  ·rw[List.mem_singleton.1 hc];exact Ht
 ·rw[h.md,Bb];unfold HV;rw[ZG9,ZGp];simp[hk]
 ·rw[hg t,←h.g t,Bb];constructor;·intro hh;exact⟨λc hc=>hh c (List.mem_append.2 (.inl hc)),hh _ (List.mem_append.2 (.inr (List.mem_singleton.2 rfl))) hk⟩
  ·rintro⟨h1,h2⟩c hc h3;rcases List.mem_append.1 hc with hc|hc;·exact h1 c hc h3
   ·rw[List.mem_singleton.1 hc];exact h2
theorem FE.spec(p:List O)(hp:FE.pre (p,())):FE.wp p λr=>r=FE.fn (p,()):=by
 obtain⟨hlen,IN⟩:p.length≤4096∧∀c∈p,Zr c:=hp;rw[show FE.fn (p,())=Je p from rfl];unfold FE.wp;dsimp only;refine⟨rfl,?_⟩;refine Lp.iter p.length (λi y=>y.1=(i:Int)∧∃b0 b1,y.2.2.2.2=[b0,b1]∧SI p i y.2.1 y.2.2.1 y.2.2.2.1 b0 b1) ⟨rfl,false,false,rfl,SI.nil p⟩ ?_;rintro i⟨y,hi,lo,mods,bd⟩hle⟨hy,b0,b1,D3,hS⟩R hR;simp only at hy D3 hS;subst hy D3;dsimp only;have g0:∀(x z:Bool),List.getD [x,z] (Int.toNat (0:Int)) false=x:=λ_ _=>rfl;have g1:∀(x z:Bool),List.getD [x,z] (Int.toNat (1:Int)) false=z:=λ_ _=>rfl;have s0:∀(x z:Bool),List.set [x,z] (Int.toNat (0:Int)) true=[true,z]:=λ_ _=>rfl;have s1:∀(x z:Bool),List.set [x,z] (Int.toNat (1:Int)) true=[x,true]:=λ_ _=>rfl;have l0:∀(x z:Bool),Int.toNat (0:Int)<List.length [x,z]:=λ_ _=>Nat.zero_lt_two;have l1:∀(x z:Bool),Int.toNat (1:Int)<List.length [x,z]:=λ_ _=>ZIq 1;have i0:(0:Int)≤(0:Int)∧(0:Int)<((2:Nat):Int):=⟨by omega,by omega⟩;have i1:(0:Int)≤(1:Int)∧(1:Int)<((2:Nat):Int):=⟨by omega,by omega⟩;have ZF0:mods.length≤4097:=by
  rw[hS.md];unfold HV;have h1:=ZGf (λc:O=>decide (c.1=2)) (p.take i);have h2:(p.take i).length≤p.length:=by rw[ZGP];omega
  simp only[ZGL,ZGM];omega
 obtain⟨ZFw,ZFx⟩:=hS.lb;obtain⟨ZFt,ZFu⟩:=hS.hb;by_cases e:i<p.length
 ·have e':(i:Int)<((p.length:Nat):Int):=by omega
  rw[ZGB e',ZGC,ZGD];have Cd:=AV (d:=U) e;have GD:=hS.div e;have FW:=@SI.ge p i hi lo mods b0 b1 hS e;obtain⟨c,Iu⟩:∃c,p.getD i U=c:=⟨_,rfl⟩;rw[Iu]at Cd GD FW⊢;obtain⟨c1,ck,ca,ckb⟩:=IN c Cd;have Be:c.2.2.1.getD (Int.toNat (0:Int)) 0=Z 0 c:=rfl;rw[Be];refine Ge.of (P:=λy4=>∃b0' b1',y4.2.2.2.2.2.2.2.2.2.2.2.2=[b0',b1']∧SI p (i+1) y4.2.2.2.2.2.2.2.2.2.1 y4.2.2.2.2.2.2.2.2.2.2.1 y4.2.2.2.2.2.2.2.2.2.2.2.1 b0' b1') ?_ ?_;·rintro y4⟨b0',b1',h1,h2⟩;exact⟨⟨by omega,by omega⟩,hR e _ ⟨by simp,b0',b1',h1,h2⟩⟩
  ·intro J hJ;refine⟨⟨by omega,e'⟩,⟨by omega,by rw[c1];decide⟩,?_⟩;by_cases k2:c.1=2
   ·rw[show(c.1==2)=true by rw[k2];rfl,ZGC];refine⟨⟨?_,?_⟩,hJ _ ⟨b0,b1,rfl,GD k2⟩⟩;·simp only[ZGL,ZGS];omega
    ·simp only[ZGL,ZGS];omega
   ·rw[show(c.1==2)=false by simpa using k2,ZF9];have k01:c.1=0∨c.1=1:=by rcases ck with h|h|⟨h,_⟩<;>first|exact .inl h|exact .inr h|exact absurd h k2
    by_cases ha:Z 0 c=0
    ·rw[show(Z 0 c==0)=true by rw[ha];rfl,ZGC];refine⟨λh=>⟨h,trivial⟩,λh=>h,λh=>⟨h,trivial⟩,λh=>⟨h,trivial⟩,λh=>⟨h,trivial⟩,λh=>⟨h,trivial⟩,λh=>⟨h,λh'=>by rw[h,h'];rfl⟩,λh=>by rw[h];rfl,?_⟩;have Qu:Ik c=( c.1==0&&decide (c.2.2.2<0)||c.1==1&&c.2.2.2 !=0):=by
      unfold Ik;rw[ZGB k2,ZGB ha,ZH2,ZH2];congr 2;by_cases hz:c.2.2.2=0;·simp[hz]
      ·simp[hz]
     rw[←Qu];cases hb:Ik c with|true=>rw[ZGC];unfold Je;rw[ZGE (List.any_eq_true.2 ⟨c,Cd,hb⟩)]|false=>
      rw[ZF9];refine hJ _ ⟨b0,b1,rfl,FW k2 hb (λt=>?_) hS.lb hS.hb⟩;rw[ha,ZIo,ZH3];have hT:Bs c.1 c.2.1 c.2.2.2:=by
       unfold Ik at hb;unfold Bs;rcases k01 with h|h;·rw[ZGE h];simp[ha,h]at hb;exact hb
       ·rw[ZGA (by omega),ZGE h];simp[ha,h]at hb;exact hb
      exact⟨λh=>⟨h,hT⟩,λh=>h.1⟩
    ·rw[show(Z 0 c==0)=false by simpa using ha,ZF9];have Ht:Ik c=false:=by unfold Ik;simp[ha]
     have Yk:=ZCy ha k01;obtain⟨Xn,hL2⟩:=ZCZ (c:=c) (M:=1152921504606846976) ckb;obtain⟨hU1,hU2⟩:=ZEz (c:=c) (M:=1152921504606846976) ckb;refine Ge.of (P:=λy5=>∃b0',y5.2.2.2.2.2=[b0',b1]∧(∀t:Int,b0'=true→y5.1≤t↔(b0=true→lo≤t)∧( 0<Z 0 c∨c.1=1→IU c≤t))∧-1152921504606846976≤y5.1∧y5.1≤1152921504606846976) ?_ ?_
     ·rintro⟨lo',f1,f2,f3,f4,bd'⟩⟨b0',h1,h2,h3⟩;simp only at h1 h2 h3;subst h1;dsimp only;rw[g1];refine⟨λh=>⟨h,trivial⟩,λh=>⟨h,trivial⟩,λh=>by rw[h];rfl,?_⟩;by_cases hu:Z 0 c<0∨c.1=1
      ·rw[show(decide (Z 0 c<0)||c.1==1)=true by simpa using hu,ZGC];refine⟨⟨by omega,by omega⟩,⟨by show-9223372036854775807≤c.2.2.2;omega,by show c.2.2.2≤9223372036854775807;omega⟩,?_⟩;refine Ge.of (P:=λy6=>y6.1=Ig c) ?_ ?_
       ·rintro⟨u,f5,f6⟩h6;simp only at h6;subst h6;dsimp only;refine⟨i1,l1 _ _,λh=>⟨h,h,trivial⟩,λh=>by rw[h];rfl,?_⟩;by_cases hq:b1=false∨Ig c<hi
        ·rw[show(!b1||decide (Ig c<hi))=true by simpa using hq,ZGC,s1];refine⟨i1,l1 _ _,hJ _ ⟨b0',true,rfl,FW k2 Ht (λt=>?_) h3 ⟨hU1,hU2⟩⟩⟩;rw[h2 t,Yk t];constructor
         ·rintro⟨⟨k1,k3⟩,k4⟩;have k4:t≤Ig c:=k4 rfl;refine⟨⟨k1,λhb=>?_⟩,k3,λ_=>k4⟩;rcases hq with hq|hq;·rw[hq]at hb;cases hb
          ·omega
         ·rintro⟨⟨k1,k3⟩,k4,k5⟩;exact⟨⟨k1,k4⟩,λ_=>k5 hu⟩
        ·rw[show(!b1||decide (Ig c<hi))=false by simpa using hq,ZF9];rw[ZGx]at hq;refine hJ _ ⟨b0',b1,rfl,FW k2 Ht (λt=>?_) h3 hS.hb⟩;rw[h2 t,Yk t];constructor;·rintro⟨⟨k1,k3⟩,k4⟩;have k5:t≤hi:=k4 (by simpa using hq.1);exact⟨⟨k1,k4⟩,k3,λ_=>by omega⟩
         ·rintro⟨⟨k1,k3⟩,k4,k5⟩;exact⟨⟨k1,k4⟩,k3⟩
       ·intro J6 Qo;by_cases AU:0<Z 0 c;·rw[ZGB AU,ZGC];refine⟨⟨by omega,by omega⟩,⟨by show-9223372036854775807≤-c.2.2.2;omega,by show-c.2.2.2≤9223372036854775807;omega⟩,Qo _ ?_⟩;show(if Z 0 c<1 then((0:Int),(1:Int))else(-c.2.2.2/Z 0 c,0)).1=Ig c;unfold Ig;rw[ZGA (by omega),ZGE AU]
        ·rw[ZGF AU,ZF9];refine Qo _ ?_;show(if-Z 0 c<1 then((0:Int),(1:Int))else(c.2.2.2/ -Z 0 c,0)).1=Ig c;unfold Ig;rw[ZGA (by omega),ZGA AU]
      ·rw[show(decide (Z 0 c<0)||c.1==1)=false by simpa using hu,ZF9];refine hJ _ ⟨b0',b1,rfl,FW k2 Ht (λt=>?_) h3 hS.hb⟩;rw[h2 t,Yk t];constructor;·rintro⟨⟨k1,k3⟩,k4⟩;exact⟨⟨k1,k4⟩,k3,λh=>absurd h hu⟩
       ·rintro⟨⟨k1,k3⟩,k4,k5⟩;exact⟨⟨k1,k4⟩,k3⟩
     ·intro J5 Xl;rw[g0];refine⟨λh=>⟨h,trivial⟩,λh=>⟨h,trivial⟩,λh=>by rw[h];rfl,?_⟩;by_cases hl:0<Z 0 c∨c.1=1
      ·rw[show(decide (0<Z 0 c)||c.1==1)=true by simpa using hl,ZGC];refine⟨⟨by omega,by omega⟩,⟨by show-2305843009213693952≤-c.2.2.2;omega,by show-c.2.2.2≤2305843009213693952;omega⟩,?_⟩;refine Ge.of (P:=λy6=>y6.1=IU c) ?_ ?_
       ·rintro⟨u,f5,f6⟩h6;simp only at h6;subst h6;dsimp only;refine⟨i0,l0 _ _,λh=>⟨h,h,trivial⟩,λh=>by rw[h];rfl,?_⟩;by_cases hq:b0=false∨lo<IU c
        ·rw[show(!b0||decide (lo<IU c))=true by simpa using hq,ZGC,s0];refine⟨i0,l0 _ _,Xl _ ⟨true,rfl,λt=>?_,Xn,hL2⟩⟩;constructor
         ·intro k1;have k1:=k1 rfl;refine⟨λhb=>?_,λ_=>k1⟩;rcases hq with hq|hq;·rw[hq]at hb;cases hb
          ·simp only at k1;omega
         ·rintro⟨k1,k3⟩_;exact k3 hl
        ·rw[show(!b0||decide (lo<IU c))=false by simpa using hq,ZF9];rw[ZGx]at hq;refine Xl _ ⟨b0,rfl,λt=>⟨λk1=>⟨k1,λ_=>?_⟩,λk1=>k1.1⟩,hS.lb⟩;have k5:lo≤t:=k1 (by simpa using hq.1);omega
       ·intro J6 Qo;by_cases Cj:Z 0 c<0;·rw[ZGB Cj,ZGC];refine⟨⟨by omega,by omega⟩,⟨by show-2305843009213693952≤c.2.2.2;omega,by show c.2.2.2≤2305843009213693952;omega⟩,Qo _ ?_⟩;show(if-Z 0 c<1 then((0:Int),(1:Int))else(-(-c.2.2.2/ -Z 0 c),0)).1=IU c;unfold IU;rw[ZGA (by omega),ZGE Cj]
        ·rw[ZGF Cj,ZF9];refine Qo _ ?_;show(if Z 0 c<1 then((0:Int),(1:Int))else(-(- -c.2.2.2/Z 0 c),0)).1=IU c;unfold IU;rw[ZGA (by omega),ZGA Cj,ZLH]
      ·rw[show(decide (0<Z 0 c)||c.1==1)=false by simpa using hl,ZF9];exact Xl _ ⟨b0,rfl,λt=>⟨λk1=>⟨k1,λh=>absurd h hl⟩,λk1=>k1.1⟩,hS.lb⟩
 ·have :i=p.length:=by omega
  subst this;rw[ZGF (ZGH _),ZF9];have hnb:=hS.nb;have Kj:=hS.md;have hg:=hS.g;rw[ZGN]at hnb Kj hg;rw[g0,g1];have Q7:∀m∈mods,1≤m∧m≤512:=λm hm=>by
   rw[Kj]at hm;unfold HV at hm;rcases List.mem_cons.1 hm with rfl|hm;·omega
   ·obtain⟨c,hc,rfl⟩:=List.mem_map.1 hm;obtain⟨hc,hk⟩:=List.mem_filter.1 hc;have hk:c.1=2:=by simpa using hk
    obtain⟨_,ck,_,_⟩:=IN c hc;rcases ck with h|h|⟨h,h1,h2⟩;·omega
    ·omega
    ·exact⟨h1,h2⟩
  have Ka:¬p.any Ik=true:=λh=>by obtain⟨c,hc,hb⟩:=List.any_eq_true.1 h;rw[hnb c hc]at hb;cases hb
  refine⟨λm hm=>by have :=Q7 m hm;omega,?_⟩;rw[show Dc.fn (mods,())=DE (HV p)by rw[Kj]];by_cases EI:(DE (HV p)).2=0
  ·rw[show((DE (HV p)).2 !=0)=false by rw[EI];rfl,ZF9];rcases ZR (HV p)with h|h|⟨_,hd0,hd1,Tt⟩;·rw[EI]at h;cases h
   ·rw[EI]at h;cases h
   ·have GD:∀c∈p,c.1=2→c.2.1∣(DE (HV p)).1:=λc hc hk=>by rw[hd1];refine Oh ?_;unfold HV;exact ZGK _ (List.mem_map.2 ⟨c,List.mem_filter.2 ⟨hc,by simpa using hk⟩,rfl⟩)
    have ZBE:1≤(DE (HV p)).1:=by
     have h1:(1:Int)∈HV p:=by unfold HV;exact ZI1
     have :=Oh h1;rw[hd1];have :=Uj hd0;omega
    obtain⟨d,hd⟩:∃d,(DE (HV p)).1=d:=⟨_,rfl⟩;rw[hd]at GD ZBE hd1;rw[hd];have ZFq:d≤512:=by omega
    have mU:Je p=@ite _ (∃t,Li p t) (Classical.propDecidable _) (true,true) (false,true):=by
     unfold Je;rw[ZGA Ka,ZGA λh=>h EI];by_cases h:∃t,Li p t;·rw[ZGE h];simp[h]
     ·rw[ZGA h];simp[h]
    have PU:∀t,Li p t↔((b0=true→lo≤t)∧(b1=true→t≤hi))∧∀c∈p,c.1=2→c.2.1∣c.2.2.2+Z 0 c*t:=λt=>by
     rw[←hg t];unfold Li;constructor;·intro h;refine⟨λc hc _=>h c hc,λc hc hk=>?_⟩;have :=h c hc;unfold Bs at this;rwa[ZGA (by omega),ZGA (by omega)]at this
     ·rintro⟨h1,h2⟩c hc;by_cases hk:c.1=2;·unfold Bs;rw[ZGA (by omega),ZGA (by omega)];exact h2 c hc hk
      ·exact h1 c hc hk
    refine Ge.of (P:=λy4=>(b0=true→y4.1=lo)∧(b0=false→b1=true→y4.1=hi-d+1)∧-1152921504606847976≤y4.1∧y4.1≤1152921504606847976) ?_ ?_
    ·rintro⟨lo',f1,f2⟩⟨h1,h2,h3,h4⟩;simp only at h1 h2 h3 h4;dsimp only;have hin:∀n,lo'≤n→(b1=true→n≤hi)→(b0=true→lo≤n)∧(b1=true→n≤hi):=λn k1 k2=>⟨λh=>by have :=h1 h;omega,k2⟩;have KB:(∀n,lo'≤n→n<lo'+d→(b1=true→n≤hi)→∃c∈p,c.1=2∧¬c.2.1∣c.2.2.2+Z 0 c*n)→¬∃t,Li p t:=by
      rintro Bz⟨t,ht⟩;obtain⟨⟨k1,k2⟩,k3⟩:=(PU t).1 ht;have m1:=ZHQ (t-lo') (show d≠0 by omega);have m2:=ZHH (t-lo') (show 0<d by omega);have m3:=ZHT (t-lo') d;obtain⟨r,hr⟩:∃r,(t-lo')%d=r:=⟨_,rfl⟩;obtain⟨q,hq⟩:∃q,(t-lo')/d=q:=⟨_,rfl⟩;rw[hr]at m1 m2 m3;rw[hq]at m3;obtain⟨c,hc,hk,hnd⟩:=Bz (lo'+r) (by omega) (by omega) λhb=>by cases Du:b0 with|true=>have j1:=h1 Du;have j2:=k1 Du;have j3:=k2 hb;have j4:=XB (a:=t-lo') (d:=d) (by omega) (by omega);rw[hr]at j4;omega|false=>have :=h2 Du hb;omega
      refine hnd ?_;have Ld:=k3 c hc hk;have Nk:c.2.1∣Z 0 c*(d*q):=ZIi (GD c hc hk) (ZIi (ZIH d q) (Int.dvd_mul_left _ _));have hp3:=ZJw Ld Nk;have ee:c.2.2.2+Z 0 c*t-Z 0 c*(d*q)=c.2.2.2+Z 0 c*(lo'+r):=by
       have :t=lo'+r+d*q:=by omega
       rw[this];grind
      rwa[ee]at hp3
     refine Lp.iter d.toNat (λk z=>z=lo'+(k:Int)∧∀n,lo'≤n→n<lo'+(k:Int)→∃c∈p,c.1=2∧¬c.2.1∣c.2.2.2+Z 0 c*n) ⟨by omega,λn k1 k2=>by omega⟩ ?_;rintro k z hk⟨rfl,hz⟩R5 hR5;refine⟨⟨by omega,by omega⟩,λ_=>i1,λh=>⟨h,l1 _ _⟩,λh=>⟨h,trivial⟩,λh=>⟨h,trivial⟩,λh=>⟨h,h,trivial⟩,λh=>⟨h,λh'=>by rw[h,h'];rfl⟩,λh=>h,?_⟩;by_cases hc:lo'+(k:Int)<lo'+d∧(b1=false∨lo'+(k:Int)≤hi)
     ·rw[show(decide (lo'+(k:Int)<lo'+d)&&(!b1||decide (lo'+(k:Int)≤hi)))=true by simpa using hc,ZGC];obtain⟨n,hn⟩:∃n,lo'+(k:Int)=n:=⟨_,rfl⟩;rw[hn]at hc⊢;have hnb:-1152921504606847976≤n∧n≤1152921504606848488:=by omega
      refine Lp.iter p.length (λj y=>y.1=(j:Int)∧(y.2=true↔∀c∈p.take j,c.1=2→c.2.1∣c.2.2.2+Z 0 c*n)) ⟨rfl,by simp⟩ ?_;rintro j⟨y,al⟩hj⟨hy,hal⟩R7 kO;simp only at hy hal;subst hy;dsimp only;by_cases ej:j<p.length
      ·have ej':(j:Int)<((p.length:Nat):Int):=by omega
       rw[ZGB ej',ZGC,ZGD];have Cd:=AV (d:=U) ej;have Bb:=B0 U ej;obtain⟨c,Iu⟩:∃c,p.getD j U=c:=⟨_,rfl⟩;rw[Iu]at Cd Bb⊢;obtain⟨c1,ck,ca,ckb⟩:=IN c Cd;refine⟨⟨by omega,ej'⟩,?_⟩;have KA:∀(P:Prop)(b:Bool),(b=true↔P)→(c.1=2→(P↔c.2.1∣c.2.2.2+Z 0 c*n))→(c.1≠2→P)→((al&&b)=true↔∀c∈p.take (j+1),c.1=2→c.2.1∣c.2.2.2+Z 0 c*n):=λP b hb h2 h3=>by
        rw[ZGW,hal,hb,Bb];constructor
        ·rintro⟨k1,k2⟩x hx CB;rcases List.mem_append.1 hx with hx|hx;·exact k1 x hx CB
         ·rw[List.mem_singleton.1 hx]at CB⊢;exact(h2 CB).1 k2
        ·intro kk;refine⟨λx hx=>kk x (List.mem_append.2 (.inl hx)),?_⟩;by_cases h:c.1=2;·exact(h2 h).2 (kk c (List.mem_append.2 (.inr (List.mem_singleton.2 rfl))) h)
         ·exact h3 h
       by_cases k2:c.1=2
       ·have hM:1≤c.2.1∧c.2.1≤512:=by rcases ck with h|h|⟨_,h1,h2⟩<;>omega
        rw[show(c.1==2)=true by rw[k2];rfl,ZGC];have HH:∀x:Int,C9.fn (x,c.2.1,())=(x%c.2.1,0):=λx=>by show(if c.2.1<1 then((0:Int),(1:Int))else(x%c.2.1,0))=_;rw[ZGA (by omega)]
        have hpre:∀x:Int,C9.pre (x,c.2.1,()):=λx=>by show c.2.1≤9223372036854775807;omega
        rw[show c.2.2.1.getD (Int.toNat (0:Int)) 0=Z 0 c from rfl,HH,HH,HH];dsimp only;have r1:=ZHQ (Z 0 c) (show c.2.1≠0 by omega);have r2:=ZHH (Z 0 c) (show 0<c.2.1 by omega);have r3:=ZHQ n (show c.2.1≠0 by omega);have r4:=ZHH n (show 0<c.2.1 by omega);have r5:=ZHQ c.2.2.2 (show c.2.1≠0 by omega);have r6:=ZHH c.2.2.2 (show 0<c.2.1 by omega);have lX:=ZCn (a:=Z 0 c) (k:=c.2.2.2) (n:=n) hM.1;have Kl:0≤Z 0 c%c.2.1*(n%c.2.1)∧Z 0 c%c.2.1*(n%c.2.1)≤512*512:=by refine⟨ZID r1 r3,?_⟩;exact ZKX (by omega) (by omega) r3 (by omega)
        obtain⟨V,hV⟩:∃V,Z 0 c%c.2.1*(n%c.2.1)=V:=⟨_,rfl⟩;rw[hV]at Kl lX⊢;refine⟨hpre _,⟨by omega,by rw[c1];decide⟩,hpre _,hpre _,λh=>⟨h,h,by omega,by omega⟩,λh=>⟨h,h,by omega,by omega⟩,λh=>⟨h,trivial⟩,λh=>⟨h,h,by omega⟩,λh=>⟨h,trivial⟩,λh=>h,⟨by omega,by omega⟩,kO ej _ ⟨by simp,?_⟩⟩;refine KA (c.2.1∣V+c.2.2.2%c.2.1) _ ?_ (λ_=>lX) λh=>absurd k2 h;rw[ZIF,ZIQ]
       ·rw[show(c.1==2)=false by simpa using k2,ZF9];refine⟨⟨by omega,by omega⟩,kO ej _ ⟨by simp,?_⟩⟩;have :=KA True true (by simp) (λh=>absurd h k2) λ_=>trivial;rwa[ZIC]at this
      ·have :j=p.length:=by omega
       subst this;rw[ZGN]at hal;rw[ZGF (ZGH _),ZF9];cases hb:al with
       |true=>
        rw[ZGC,mU,ZGE];refine⟨n,(PU n).2 ⟨hin n (by omega) λh=>?_,hal.1 hb⟩⟩;rcases hc.2 with h'|h';·rw[h']at h;cases h
        ·exact h'|false=>
        rw[ZF9];refine⟨⟨by omega,by omega⟩,hR5 (by omega) _ ⟨by omega,λm k1 k2=>?_⟩⟩;by_cases hm:m=n
        ·subst hm;by_cases hex:∃c∈p,c.1=2∧¬c.2.1∣c.2.2.2+Z 0 c*m;·exact hex
         ·exfalso;have :al=true:=hal.2 λc hc hk=>by
           by_cases hd:c.2.1∣c.2.2.2+Z 0 c*m;·exact hd
           ·exact absurd ⟨c,hc,hk,hd⟩ hex
          rw[hb]at this;cases this
        ·exact hz m k1 (by omega)
     ·rw[show(decide (lo'+(k:Int)<lo'+d)&&(!b1||decide (lo'+(k:Int)≤hi)))=false by rw[ZJ4,ZJy,ZGW,ZHn,ZGw,ZGw,ZIl];exact hc,ZF9];rw[mU,ZGA];refine KB λn k1 k2 k3=>hz n k1 ?_;by_cases Ab:lo'+(k:Int)<lo'+d;·have :¬(b1=false∨lo'+(k:Int)≤hi):=λh=>hc ⟨Ab,h⟩;rw[ZGx]at this;have :=k3 (by simpa using this.1);omega
      ·omega
    ·intro J hJ;refine⟨i0,l0 _ _,?_⟩;cases Du:b0 with|true=>rw[ZGq,ZF9];exact hJ _ ⟨λ_=>rfl,λh=>(by rw[Du]at h;cases h),by simp only;omega,by simp only;omega⟩|false=>rw[ZGz,ZGC];refine⟨⟨by omega,by omega⟩,⟨by omega,by omega⟩,i1,l1 _ _,?_⟩;cases Gm:b1 with|true=>rw[ZGq,ZF9];exact hJ _ ⟨λh=>(by rw[Du]at h;cases h),λ_ _=>rfl,by simp only;omega,by simp only;omega⟩|false=>rw[ZGz,ZGC];exact hJ _ ⟨λh=>(by rw[Du]at h;cases h),λ_ h=>(by rw[Gm]at h;cases h),by simp only;omega,by simp only;omega⟩
  ·rw[bne_iff_ne.2 EI,ZGC];unfold Je;rw[ZGA Ka,ZGE EI]
theorem xK{c:O}(h:Ik c=true)(t:Int):¬Bs c.1 c.2.1 (c.2.2.2+Z 0 c*t):=by
 unfold Ik at h;simp only[ZGW,ZHn,ZG0]at h;obtain⟨_,h1,h2⟩:=h;rw[h1,ZIo,ZH3];unfold Bs;rcases h2 with⟨h2,h3⟩|⟨h2,h3⟩;·rw[ZGE h2];omega
 ·rw[ZGA (by omega),ZGE h2];exact h3
theorem ZEE{p:List O}(h:(Je p).2=true):(Je p).1=true↔∃t,Li p t:=by
 unfold Je at h⊢;split at h
 ·rename_i hb;rw[ZGE hb];obtain⟨c,hc,Qu⟩:=List.any_eq_true.1 hb;constructor;·intro h;cases h
  ·rintro⟨t,ht⟩;exact absurd (ht c hc) (xK Qu t)
 ·rename_i hb;rw[ZGA hb];split at h;·cases h
  ·rename_i hd;rw[ZGA hd];simp
theorem dL{p:List O}{v:Nat}{x:List Int}(t:Int):Li (p.map λc=>(c.1,c.2.1,[Z v c],Ah (AI v c) x)) t↔JI p v x t:=by
 unfold Li JI;constructor;·intro h c hc;exact h _ (ZH6 hc)
 ·intro h c hc;obtain⟨d,hd,rfl⟩:=List.mem_map.1 hc;exact h d hd
theorem wJ{p:List O}{v:Nat}{x:List Int}(hp:∀c∈p,AG c=true∧c.2.2.1.length=x.length+1)(hx:x.all DA=true):∀c∈(p.map λc=>(c.1,c.2.1,[Z v c],Ah (AI v c) x):List O),Zr c:=by
 intro c hc;obtain⟨d,hd,rfl⟩:=List.mem_map.1 hc;obtain⟨hv,hl⟩:=hp d hd;obtain⟨l12,lb,lk⟩:=Bo.b (AG.lin hv);refine⟨rfl,?_,E7 hv v,?_⟩
 ·unfold AG at hv;split at hv;·rename_i h;exact h.elim .inl λh=>.inr (.inl h)
  ·split at hv;·rename_i h;simp only[ZGW,ZG0]at hv;exact .inr (.inr ⟨h,hv.1.1,hv.1.2⟩)
   ·cases hv
 ·have hb:=gM (a:=Az d.2.2.1 v) (b:=x) (λn hn=>by have :=lb n (Wc hn);unfold DB;simp only[ZGW,ZG0];exact this) λn hn=>List.all_eq_true.1 hx n hn;have G9:(Az d.2.2.1 v).length≤12:=by unfold Az;simp only[ZGI,ZGP,ZG1];omega
  show-1152921504606846976≤d.2.2.2+A0 (Az d.2.2.1 v) x∧d.2.2.2+A0 (Az d.2.2.1 v) x≤1152921504606846976;omega
theorem law05_ElimPoints.spec(s:AM)(v:Int)(x:List Int):law05_ElimPoints.wp s v x λr=>r=true:=by unfold law05_ElimPoints.wp;dsimp only;rw[show BF.fn ()=true from rfl,show DU.fn (s,v,())=Ar s v from rfl];cases CH.fn ((6:Int),((10:Int),([s],())))with|false=>rfl|true=>
 rw[ZGq,ZF9];have hval:(!(Ar s v).2 !=0)=true→(Ar s v).2=0:=λh=>by simpa using h
 refine⟨λh=>⟨h,trivial⟩,λh=>⟨h,trivial⟩,λh=>⟨h,?_⟩,λh=>⟨h,h,trivial⟩,λh=>by rw[h];rfl,λh=>⟨h,trivial⟩,λh=>⟨h,trivial⟩,λh=>by rw[h];rfl,?_⟩;·have h1:=Ol (hval h);have :=AY.b h1.1;exact⟨by omega,by omega⟩
 ·by_cases hc:((Ar s v).2≠0∨(x.length:Int)≠s.1-1)∨x.all DA=false;·rw[show((Ar s v).2 !=0||((x.length:Nat):Int)!=s.1-1||! Es.fn (x,()))=true by simpa using hc,ZGC]
  ·rw[show((Ar s v).2 !=0||((x.length:Nat):Int)!=s.1-1||! Es.fn (x,()))=false by simpa using hc,ZF9];rw[ZGx,ZGx]at hc;obtain⟨⟨h1,h2⟩,h3⟩:=hc;have h1:(Ar s v).2=0:=by simpa using h1
   have h2:(x.length:Int)=s.1-1:=by simpa using h2
   have h3:x.all DA=true:=by simpa using h3
   obtain⟨hv,v0,v1,e1,e2,e3⟩:=Ol h1;have hb:=AY.b hv;have Iz:∀q∈s.2,pieceN q s.1:=λq hq=>by obtain⟨k1,k2⟩:=hb.2.2.2 q hq;exact⟨by omega,k2,hb.1,hb.2.1⟩
   have RL:=hb.2.2.1;refine Lp.iter s.2.length (λi y=>y.1=(i:Int)∧(y.2=true↔∃q∈s.2.take i,∃t,As q (C6 v.toNat t x)=true)) ⟨rfl,by simp⟩ ?_;rintro i⟨y,al⟩hi⟨hy,hal⟩R hR;simp only at hy hal;subst hy;dsimp only;by_cases e:i<s.2.length
   ·have e':(i:Int)<((s.2.length:Nat):Int):=by omega
    rw[ZGB e',ZGC,ZGD];have hq:=Iz _ (AV (d:=[]) e);have Bb:=B0 [] e;obtain⟨q,I0⟩:∃q,s.2.getD i []=q:=⟨_,rfl⟩;rw[I0]at hq Bb⊢;have mK:∀c∈q,AG c=true∧c.2.2.1.length=x.length+1:=λc hc=>by obtain⟨k1,k2⟩:=hq.2.1 c hc;exact⟨k1,by omega⟩
    have hql:=hq.1;rw[show Fa.fn (q,v,x,())=q.map λc=>(c.1,c.2.1,[Z v.toNat c],Ah (AI v.toNat c) x)from rfl];refine⟨⟨by omega,e'⟩,⟨mK,by show q.length≤4096;omega,⟨v0,by show v≤(x.length:Int);omega⟩,h3⟩,⟨by show(List.map _ q).length≤4096;rw[ZGM];omega,wJ mK h3⟩,?_⟩;rw[show FE.fn ( q.map λc=>(c.1,c.2.1,[Z v.toNat c],Ah (AI v.toNat c) x),())=Je (q.map λc=>(c.1,c.2.1,[Z v.toNat c],Ah (AI v.toNat c) x))from rfl];cases hk:(Je (q.map λc=>(c.1,c.2.1,[Z v.toNat c],Ah (AI v.toNat c) x))).2 with|false=>rw[ZGz,ZGC]|true=>
     rw[ZGq,ZF9];have hs:=ZEE hk;have ZBn:(Je (q.map λc=>(c.1,c.2.1,[Z v.toNat c],Ah (AI v.toNat c) x))).1=true↔∃t,As q (C6 v.toNat t x)=true:=by
      rw[hs];constructor;·rintro⟨t,ht⟩;exact⟨t,(Ub hq (by omega) (by omega) t).2 ((dL t).1 ht)⟩
      ·rintro⟨t,ht⟩;exact⟨t,(dL t).2 ((Ub hq (by omega) (by omega) t).1 ht)⟩
     refine⟨λh=>by rw[h];rfl,⟨by omega,by omega⟩,hR e _ ⟨by simp,?_⟩⟩;simp only;rw[ZHn,hal,ZBn,Bb];constructor
     ·rintro(⟨q',k1,k2⟩|k);·exact⟨q',List.mem_append.2 (.inl k1),k2⟩
      ·exact⟨q,List.mem_append.2 (.inr (List.mem_singleton.2 rfl)),k⟩
     ·rintro⟨q',k1,k2⟩;rcases List.mem_append.1 k1 with k1|k1;·exact .inl ⟨q',k1,k2⟩
      ·rw[List.mem_singleton.1 k1]at k2;exact .inr k2
   ·have :i=s.2.length:=by omega
    subst this;rw[ZGN]at hal;rw[ZGF (ZGH _),ZF9];have heq:Cs.fn ((Ar s v).1,x,())=al:=by
     show Ao (Ar s v).1.2 x=al;rw[ZHg,e3 x (by omega),hal];constructor;·rintro⟨t,ht⟩;obtain⟨q,hq,h⟩:=I3.1 ht;exact⟨q,hq,t,h⟩
     ·rintro⟨q,hq,t,h⟩;exact⟨t,I3.2 ⟨q,hq,h⟩⟩
    rw[heq];refine⟨RZ e2 (by omega) h3,λh=>h,?_⟩;simp
theorem Va(b:Bool):(Dd b).2≠0:=by cases b<;>simp[Dd]
theorem ZDa{c:O}(hv:AG c=true)(h:c.2.2.1=[]):(Ae c).2≠0:=by
 have hg:AW []=0:=rfl;unfold Ae;split;·unfold Gk;rw[h,ZGE hg];exact Va _
 ·split;·unfold CU;rw[h,ZGE (.inl hg)];exact Va _
  ·rename_i h0 h1;have hk:=AG.kind' hv;have hm:1≤c.2.1:=by omega
   have hd:((A9 c:Nat):Int)=c.2.1:=by unfold A9 AW;rw[h];simp;omega
   unfold FS;split;·exact Va _
   ·rw[ZGE hd.symm];exact Va _
theorem vV{p:List O}(hv:∀c∈p,AG c=true)(hd:A3 p 0)(hf:Fx p):p=[]:=by
 unfold Fx at hf;have hl:Aq p=[]:=by unfold Aq;rw[List.map_eq_nil_iff,List.filter_eq_nil_iff];intro r hr;obtain⟨c,hc,rfl⟩:=List.mem_map.1 hr;have :=ZDa (hv c hc) (List.length_eq_zero_iff.1 (hd c hc));simpa using this
 rw[JA]at hf;split at hf;·cases hf
 ·rw[hl]at hf;have :(GV (Cq [])).bind Gc=some []:=by decide
  rw[this]at hf;have h2:(if(([]:List O).any λc=>!AG c)||decide (96<(BB []).length)then([],false,3)else(BB [],false,(0:Int)))=(([]:List O),false,(0:Int)):=by decide
  simp only at hf;rw[h2]at hf;exact(ZGr Prod.fst hf).symm
theorem bL{f:List O→Bool×Int}:∀{l:List (List O)},Cm f l=(true,0)→∃q∈l,f q=(true,0)
 |[],h=>by cases h|p::l,h=>by
  unfold Cm at h;split at h;·exact⟨p,by simp,h⟩
  ·obtain⟨q,hq,h⟩:=bL h;exact⟨q,ZGK _ hq,h⟩
theorem sX:∀(N:Nat)(p:List O),pieceN p (N:Int)→Fx p→Bc N p=(true,0)→∃x:List Int,x.length=N∧As p x=true
 |0,p,hp,hf,_=>by have :p=[]:=vV (λc hc=>(hp.2.1 c hc).1) λc hc=>by have :=(hp.2.1 c hc).2;omega hf;subst this;exact⟨[],rfl,rfl⟩|N+1,p,hp,hf,h=>by
  rw[Pw]at h;obtain⟨c1,c2⟩:=S9 hp (by omega);obtain⟨v,hv⟩:∃v,Cf p ((N+1:Nat):Int)=v:=⟨_,rfl⟩;rw[hv]at h c1 c2;split at h;·cases h
  ·rename_i h0;have h0:(BE p ((N+1:Nat):Int) v).2=0:=by simpa using h0
   obtain⟨q,hq,h3⟩:=bL h;obtain⟨x,hx,hin⟩:=sX N q (hp.shadow c1 c2 h0 hq) ((OI hp c1 c2 h0).2.1.2 q hq) h3;obtain⟨t,ht⟩:=(bG hp c1 c2 (x:=x) (by omega) h0).1 (I3.2 ⟨q,hq,hin⟩);exact⟨_,by rw[ZG (by omega)];omega,ht⟩
theorem ZCu{s:AM}(h:(AX s).2=0):∀q∈(AX s).1.2,Fx q:=by have hval:=Zq h;unfold AX at h⊢;rw[ZGA (by rw[hval];simp)]at h⊢;obtain⟨o,h2,h3⟩:=Ro h;rw[h3];exact(PD.of_tid (λp hp=>AY.D hval hp) h2).2.2
theorem ZAU{s:AM}(h:(DW s).2=0)(h1:(DW s).1=false):∃x:List Int,(x.length:Int)=s.1∧Ao s.2 x=true:=by
 unfold DW at h h1;split at h;·cases h
 ·rename_i hval;rw[ZGA hval]at h1;split at h;·rename_i hn;exact absurd h hn
  ·rename_i hn;rw[ZGA hn]at h1;have hn:(AX s).2=0:=by simpa using hn
   split at h;·rename_i hs;have h2:(Cm (Bc s.1.toNat) (AX s).1.2).2=0:=h;have h3:(Cm (Bc s.1.toNat) (AX s).1.2).1=true:=hs.resolve_right λh'=>h' h2;obtain⟨q,hq,h4⟩:=bL (ZIU h3 h2:Cm (Bc s.1.toNat) (AX s).1.2=(true,0));have hp:=N5 hn hq;have h0:=hp.2.2.1;obtain⟨x,hx,hin⟩:=sX s.1.toNat q (by rw[ZHD h0];exact hp) (ZCu hn q hq) h4;refine⟨x,by omega,?_⟩;rw[←(N4 x hn).1];exact I3.2 ⟨q,hq,hin⟩
   ·rename_i hs;rw[ZGA hs]at h1;cases h1
theorem bJ{f:List O→Bool×Int}:∀{l:List (List O)},(∀q,(f q).2=0∨(f q).2=3)→(Cm f l).2=0∨(Cm f l).2=3
 |[],_=>.inl rfl|p::l,h=>by
  unfold Cm;split;·exact h p
  ·exact bJ h
theorem sU:∀(N:Nat)(p:List O),(Bc N p).2=0∨(Bc N p).2=3
 |0,p=>.inl rfl|N+1,p=>by
  rw[Pw];split;·exact sN _ _ _
  ·exact bJ (sU N)
theorem ZCv{s:AM}(hv:AY s=true):(AX s).2=0∨(AX s).2=3:=by
 unfold AX;rw[ZGA (by rw[hv];simp)];rcases CN (Bg s.2)with e|⟨o,e⟩;·rw[e];exact .inr rfl
 ·rw[e];exact .inl rfl
theorem ZAT{s:AM}(hv:AY s=true):(DW s).2=0∨(DW s).2=3∧(DW s).1=false:=by
 unfold DW;rw[ZGA (by rw[hv];simp)];split;·rename_i h;exact .inr ⟨(ZCv hv).resolve_left h,rfl⟩
 ·split
  ·rcases bJ (l:=(AX s).1.2) (sU s.1.toNat)with h|h;·exact .inl h
   ·exact .inr ⟨h,rfl⟩
  ·exact .inl rfl
def N7(v:Nat)(c:O):Bool:=decide (c.1=0)&&(decide (Z v c≠0)&&(List.range c.2.2.1.length).all λi=>decide (i=v)||decide (Z i c=0))
def Ja(v:Nat)(c:O):Int:=-(c.2.2.2/Z v c)
def JV(v:Nat)(c:O):Int:=c.2.2.2/ -Z v c
def DC(v:Nat)(st:(Bool×Int)×Bool×Int)(c:O):(Bool×Int)×Bool×Int:=if N7 v c=false then st else if 0<Z v c then if st.1.1=false∨st.1.2<Ja v c then((true,Ja v c),st.2)else st else if st.2.1=false∨JV v c<st.2.2 then(st.1,(true,JV v c))else st
def B1(p:List O)(v:Nat):(Bool×Int)×Bool×Int:=p.foldl (DC v) ((false,0),(false,0))
def IA(p:List O)(n:Nat):List Int×List Int×Bool:=if((List.range n).all λv=>(B1 p v).1.1&&(B1 p v).2.1)=true then((List.range n).map λv=>(B1 p v).1.2,(List.range n).map λv=>(B1 p v).2.2,true)else([],[],false)
abbrev Fb.fn(x:List O×Int×Unit):List Int×List Int×Bool:=IA x.1 x.2.1.toNat
abbrev Fb.pre(x:List O×Int×Unit):Prop:=pieceN x.1 x.2.1
def OK(most:Int)(st:Int⊕Bool×Bool)(lh:Int×Int):Int⊕Bool×Bool:=match st with|.inr r=>.inr r|.inl sz=>if lh.2<lh.1 then .inr (false,true)else if most≤lh.2-lh.1 then .inr (false,false)else if most<sz*(lh.2-lh.1+1)then .inr (false,false)else .inl (sz*(lh.2-lh.1+1))
def OJ(most:Int)(l:List (Int×Int)):Int⊕Bool×Bool:=l.foldl (OK most) (.inl 1)
def KS(p:List O)(n:Nat):List (Int×Int):=(List.range n).map λv=>((B1 p v).1.2,(B1 p v).2.2)
open Classical in
noncomputable def JC (p : List O) (n : Nat) (most : Int) : Bool × Bool := if (IA p n).2.2 = false then (false, false) else match OJ most (KS p n) with
  | .inr r => r
  | .inl _ => (decide (∃ x : List Int, x.length = n ∧ As p x = true), true)
noncomputable abbrev Fc.fn(x:List O×Int×Int×Unit):Bool×Bool:=JC x.1 x.2.1.toNat x.2.2.1
abbrev Fc.pre(x:List O×Int×Int×Unit):Prop:=pieceN x.1 x.2.1∧1≤x.2.2.1∧x.2.2.1≤1048576
def Fb.wp(x0:List O)(x1:Int)(Q:List Int×List Int×Bool→Prop):Prop:=let v0:=List.replicate x1.toNat 0;(0≤x1∧x1≤x1∧x1*((8:Nat):Int)≤140737488355328∧x1≤9223372036854775807)∧(0≤x1∧x1≤x1∧x1*((8:Nat):Int)≤140737488355328∧x1≤9223372036854775807)∧Lp (σ:=Int×List Int×List Int) (λy3 R3=>cond (decide (y3.1<x1)) (2=List.length (.replicate 2 false)∧Lp (σ:=Int×List Bool×List Int×List Int) (λy5 R5=>let v2:=x0.getD y5.1.toNat U;let v3:=v2.2.2.1.getD y3.1.toNat 0;let v5:=y5.2.1.getD (Int.toNat 0) false;let v7:=EM.fn (-v2.2.2.2,(v3,()));let v10:=y5.2.1.getD (Int.toNat 1) false;let v11:=Dl.fn (v2.2.2.2,(-v3,()));cond (decide (y5.1<x0.length)) ((0≤y5.1∧y5.1<x0.length)∧((v2.1==0)=true→(v2.1==0)=true∧True)∧((v2.1==0)=true→(v2.1==0)=true∧True)∧((v2.1==0)=true→(v2.1==0)=true∧(v2.1==0)=true∧0≤y3.1∧y3.1<v2.2.2.1.length)∧((v2.1==0)=true→(v2.1==0)=true∧True)∧((v2.1==0)=true→(v2.1==0)=true∧True)∧((v2.1==0)=true→(v2.1==0)=true)∧Lp (σ:=Int×Bool) (λy7 R7=>cond (decide (y7.1<v2.2.2.1.length)) ((0≤y7.1∧y7.1<v2.2.2.1.length)∧(y7.2=true→y7.2=true∧y7.2=true∧True)∧(y7.2=true→y7.2=true∧True)∧((y7.2&&! y7.1==y3.1)=true→(y7.2&&! y7.1==y3.1)=true∧True)∧(y7.2=true→y7.2=true∧((y7.1==y3.1)=false→(y7.2&&! y7.1==y3.1)=true))∧(y7.2=true→y7.2=true)∧AA .i64 (y7.1+1)∧R7 ( y7.1+1,y7.2&&( y7.1==y3.1||v2.2.2.1.getD y7.1.toNat 0==0))) (cond (!y7.2) (AA .i64 (y5.1+1)∧R5 ( y5.1+1,y5.2)) ((0≤y3.1∧y3.1<v2.2.2.1.length)∧cond (decide (0<v3)) (AA .i64 (-v2.2.2.2)∧EM.pre (-v2.2.2.2,(v3,()))∧(0≤(0:Int)∧0<((2:Nat):Int))∧Int.toNat 0<y5.2.1.length∧((! !v5)=true→(! !v5)=true∧(! !v5)=true∧0≤y3.1∧y3.1<y5.2.2.1.length)∧((! !v5)=true→(! !v5)=true∧Int.toNat y3.1<y5.2.2.1.length)∧((! !v5)=true→(! !v5)=true∧(! !v5)=true∧True)∧((!v5)=false→(! !v5)=true)∧cond ( !v5||decide ( y5.2.2.1.getD y3.1.toNat 0<v7.1)) ((0≤y3.1∧y3.1<y5.2.2.1.length)∧Int.toNat y3.1<y5.2.2.1.length∧(0≤(0:Int)∧0<((2:Nat):Int))∧Int.toNat 0<y5.2.1.length∧AA .i64 (y5.1+1)∧R5 ( y5.1+1,( List.set y5.2.1 (Int.toNat 0) true,( List.set y5.2.2.1 y3.1.toNat v7.1,y5.2.2.2)))) (AA .i64 (y5.1+1)∧R5 ( y5.1+1,y5.2))) (AA .i64 (-v3)∧Dl.pre (v2.2.2.2,(-v3,()))∧(0≤(1:Int)∧1<((2:Nat):Int))∧Int.toNat 1<y5.2.1.length∧((! !v10)=true→(! !v10)=true∧(! !v10)=true∧0≤y3.1∧y3.1<y5.2.2.2.length)∧((! !v10)=true→(! !v10)=true∧Int.toNat y3.1<y5.2.2.2.length)∧((! !v10)=true→(! !v10)=true∧(! !v10)=true∧True)∧((!v10)=false→(! !v10)=true)∧cond ( !v10||decide (v11.1<y5.2.2.2.getD y3.1.toNat 0)) ((0≤y3.1∧y3.1<y5.2.2.2.length)∧Int.toNat y3.1<y5.2.2.2.length∧(0≤(1:Int)∧1<((2:Nat):Int))∧Int.toNat 1<y5.2.1.length∧AA .i64 (y5.1+1)∧R5 ( y5.1+1,( List.set y5.2.1 (Int.toNat 1) true,(y5.2.2.1,List.set y5.2.2.2 y3.1.toNat v11.1)))) (AA .i64 (y5.1+1)∧R5 ( y5.1+1,y5.2)))))) (0,v2.1==0&&v3 !=0)) ((0≤(0:Int)∧0<((2:Nat):Int))∧Int.toNat 0<y5.2.1.length∧((! !v5)=true→0≤(1:Int)∧1<((2:Nat):Int))∧((! !v5)=true→(! !v5)=true∧Int.toNat 1<y5.2.1.length)∧((! !v5)=true→(! !v5)=true∧True)∧((!v5)=false→(! !v5)=true)∧cond ( !v5||!v10) (Q (([]:List Int),(([]:List Int),false))) (AA .i64 (y3.1+1)∧R3 ( y3.1+1,y5.2.2)))) (0,([false,false],y3.2))) (Q (y3.2.1,(y3.2.2,true)))) (0,(v0,v0))
def Fc.wp(x0:List O)(x1:Int)(x2:Int)(Q:Bool×Bool→Prop):Prop:=let v0:=Fb.fn (x0,(x1,()));let v3:=List.length ([]:List Int);Fb.pre (x0,(x1,()))∧cond (!v0.2.2) (Q (false,false)) (Lp (σ:=Int×Int) (λy4 R4=>let v1:=v0.2.1.getD y4.1.toNat 0;let v2:=v0.1.getD y4.1.toNat 0;cond (decide (y4.1<x1)) ((0≤y4.1∧y4.1<v0.2.1.length)∧(0≤y4.1∧y4.1<v0.1.length)∧cond (decide (v1<v2)) (Q (false,true)) ((0≤y4.1∧y4.1<v0.2.1.length)∧(0≤y4.1∧y4.1<v0.1.length)∧AA .i64 (v1-v2)∧cond (decide (x2≤v1-v2)) (Q (false,false)) ((0≤y4.1∧y4.1<v0.2.1.length)∧(0≤y4.1∧y4.1<v0.1.length)∧AA .i64 (v1-v2)∧AA .i64 ( v1-v2+1)∧AA .i64 (y4.2*( v1-v2+1))∧cond (decide (x2<y4.2*( v1-v2+1))) (Q (false,false)) (AA .i64 (y4.1+1)∧R4 ( y4.1+1,y4.2*( v1-v2+1)))))) (((v3+v0.1.length)*8≤140737488355328∧v3+v0.1.length≤9223372036854775807)∧Lp (λy6 R6=>cond (decide (y6.1<y4.2)) (Ea.pre (x0,(y6.2,()))∧cond (Ea.fn (x0,(y6.2,()))) (Q (true,true)) (AA .i64 (x1-1)∧Lp (σ:=Int×List Int) (λy8 R8=>let v5:=y8.2.getD y8.1.toNat 0;let v6:=List.set y8.2 y8.1.toNat (v5+1);cond (decide (0≤y8.1)) ((0≤y8.1∧y8.1<y8.2.length)∧Int.toNat y8.1<y8.2.length∧AA .i64 (v5+1)∧(0≤y8.1∧y8.1<y8.2.length)∧Int.toNat y8.1<y8.2.length∧(0≤y8.1∧y8.1<v6.length)∧Int.toNat y8.1<v6.length∧(0≤y8.1∧y8.1<v0.2.1.length)∧cond (decide ( v6.getD y8.1.toNat 0≤v0.2.1.getD y8.1.toNat 0)) (AA .i64 (y6.1+1)∧R6 ( y6.1+1,v6)) ((0≤y8.1∧y8.1<v0.1.length)∧(0≤y8.1∧y8.1<v6.length)∧Int.toNat y8.1<v6.length∧AA .i64 (y8.1-1)∧R8 ( y8.1-1,List.set v6 y8.1.toNat (v0.1.getD y8.1.toNat 0)))) (AA .i64 (y6.1+1)∧R6 ( y6.1+1,y8.2))) ( x1-1,y6.2))) (Q (false,true))) (0,([]:List Int)++v0.1))) (0,1))
def law05_ElimNone.wp(x0:Int×List (List O))(Q:Bool→Prop):Prop:=let v0:=Br.fn (4,(12,(3,([x0],()))));((! !v0)=true→(! !v0)=true∧True)∧((! !v0)=true→(! !v0)=true∧True)∧((!v0)=false→(! !v0)=true)∧cond ( !v0||! CO.fn (x0,())) (Q (BF.fn ())) (Lp (σ:=Int×Bool) (λy2 R2=>let v1:=x0.2.getD y2.1.toNat ([]:List O);let v2:=Fc.fn (v1,(x0.1,(3000,())));cond (decide (y2.1<x0.2.length)) ((0≤y2.1∧y2.1<x0.2.length)∧Fc.pre (v1,(x0.1,(3000,())))∧cond (!v2.2) (Q (BF.fn ())) ((y2.2=true→y2.2=true∧True)∧(y2.2=true→y2.2=true)∧AA .i64 (y2.1+1)∧R2 ( y2.1+1,y2.2&&!v2.1))) ((((Aw.fn (x0,())).2==3)=true→((Aw.fn (x0,())).2==3)=true∧True)∧(((Aw.fn (x0,())).2==3)=true→((Aw.fn (x0,())).2==3)=true)∧((!((Aw.fn (x0,())).2==3&&!(Aw.fn (x0,())).1))=true→(!((Aw.fn (x0,())).2==3&&!(Aw.fn (x0,())).1))=true∧True)∧((!((Aw.fn (x0,())).2==3&&!(Aw.fn (x0,())).1))=true→(!((Aw.fn (x0,())).2==3&&!(Aw.fn (x0,())).1))=true∧True)∧(( !((Aw.fn (x0,())).2==3&&!(Aw.fn (x0,())).1)&&(Aw.fn (x0,())).2==0)=true→( !((Aw.fn (x0,())).2==3&&!(Aw.fn (x0,())).1)&&(Aw.fn (x0,())).2==0)=true∧( !((Aw.fn (x0,())).2==3&&!(Aw.fn (x0,())).1)&&(Aw.fn (x0,())).2==0)=true∧True)∧((!((Aw.fn (x0,())).2==3&&!(Aw.fn (x0,())).1))=true→(!((Aw.fn (x0,())).2==3&&!(Aw.fn (x0,())).1))=true∧(((Aw.fn (x0,())).2==0)=true→( !((Aw.fn (x0,())).2==3&&!(Aw.fn (x0,())).1)&&(Aw.fn (x0,())).2==0)=true))∧(((Aw.fn (x0,())).2==3&&!(Aw.fn (x0,())).1)=false→(!((Aw.fn (x0,())).2==3&&!(Aw.fn (x0,())).1))=true)∧(((Aw.fn (x0,())).2==3&&!(Aw.fn (x0,())).1||(Aw.fn (x0,())).2==0&&(Aw.fn (x0,())).1==y2.2)=true→((Aw.fn (x0,())).2==3&&!(Aw.fn (x0,())).1||(Aw.fn (x0,())).2==0&&(Aw.fn (x0,())).1==y2.2)=true)∧Q (((Aw.fn (x0,())).2==3&&!(Aw.fn (x0,())).1||(Aw.fn (x0,())).2==0&&(Aw.fn (x0,())).1==y2.2)&&BF.fn ()))) (0,true))
theorem jO{l:List Int}{i:Nat}{x:Int}(h:i<l.length):(l.set i x).getD i 0=x:=by rw[A6 (by rw[ZHr];exact h),ZHk]
theorem jP{l:List Int}{i j:Nat}{x:Int}(h:i≠j):(l.set i x).getD j 0=l.getD j 0:=by rw[ZGG,ZIS h,←ZGG]
theorem Fb.spec(p:List O)(n:Int)(hp:Fb.pre (p,n,())):Fb.wp p n λr=>r=Fb.fn (p,n,()):=by
 have hp:pieceN p n:=hp;obtain⟨N,rfl⟩:∃N:Nat,n=(N:Int):=⟨n.toNat,by have :=hp.2.2.1;omega⟩;obtain⟨hlen,hc,h0,C1⟩:=hp;rw[show Fb.fn (p,(N:Int),())=IA p N from rfl];unfold Fb.wp;dsimp only;rw[ZGD];refine⟨⟨by omega,by omega,by omega,by omega⟩,⟨by omega,by omega,by omega,by omega⟩,?_⟩;have g0:∀(x z:Bool),List.getD [x,z] (Int.toNat (0:Int)) false=x:=λ_ _=>rfl;have g1:∀(x z:Bool),List.getD [x,z] (Int.toNat (1:Int)) false=z:=λ_ _=>rfl;have s0:∀(x z:Bool),List.set [x,z] (Int.toNat (0:Int)) true=[true,z]:=λ_ _=>rfl;have s1:∀(x z:Bool),List.set [x,z] (Int.toNat (1:Int)) true=[x,true]:=λ_ _=>rfl;have l0:∀(x z:Bool),Int.toNat (0:Int)<List.length [x,z]:=λ_ _=>Nat.zero_lt_two;have l1:∀(x z:Bool),Int.toNat (1:Int)<List.length [x,z]:=λ_ _=>ZIq 1;have i0:(0:Int)≤(0:Int)∧(0:Int)<((2:Nat):Int):=⟨by omega,by omega⟩;have i1:(0:Int)≤(1:Int)∧(1:Int)<((2:Nat):Int):=⟨by omega,by omega⟩;refine Lp.iter N (λv y=>y.1=(v:Int)∧(y.2.1.length=N∧y.2.2.length=N)∧(∀w,w<v→y.2.1.getD w 0=(B1 p w).1.2∧y.2.2.getD w 0=(B1 p w).2.2∧(B1 p w).1.1=true∧(B1 p w).2.1=true)∧∀w,v≤w→w<N→y.2.1.getD w 0=0∧y.2.2.getD w 0=0) ⟨rfl,⟨by simp,by simp⟩,λw hw=>absurd hw (by omega),λw _ hw=>by simp[hw]⟩ ?_;rintro v⟨y,lo,hi⟩hv⟨hy,⟨Gq,Q5⟩,IG,Hx⟩R hR;simp only at hy Gq Q5 IG Hx;subst hy;dsimp only;by_cases e:v<N
 ·rw[ZGB (show(v:Int)<(N:Int)by omega),ZGC];refine⟨rfl,?_⟩;rw[ZGD];refine Lp.iter p.length (λj y=>y.1=(j:Int)∧(y.2.2.1.length=N∧y.2.2.2.length=N)∧y.2.1=[((p.take j).foldl (DC v) ((false,0),(false,0))).1.1,((p.take j).foldl (DC v) ((false,0),(false,0))).2.1]∧(y.2.2.1.getD v 0=((p.take j).foldl (DC v) ((false,0),(false,0))).1.2∧y.2.2.2.getD v 0=((p.take j).foldl (DC v) ((false,0),(false,0))).2.2)∧∀w,w≠v→y.2.2.1.getD w 0=lo.getD w 0∧y.2.2.2.getD w 0=hi.getD w 0) ⟨rfl,⟨Gq,Q5⟩,rfl,Hx v (ZGR _) e,λw _=>⟨rfl,rfl⟩⟩ ?_;rintro j⟨y,bd,lo',hi'⟩hj⟨hy,⟨EJ,G9⟩,D3,⟨Bk,CA⟩,hw⟩R2 BJ;simp only at hy EJ G9 D3 Bk CA hw;subst hy D3;dsimp only;rw[g0,g1];by_cases ej:j<p.length
  ·have ej':(j:Int)<((p.length:Nat):Int):=by omega
   rw[ZGB ej',ZGC,ZGD];have Cd:=hc _ (AV (d:=U) ej);have Bb:=B0 U ej;obtain⟨c,Iu⟩:∃c,p.getD j U=c:=⟨_,rfl⟩;rw[Iu]at Cd Bb⊢;have Jz:(p.take (j+1)).foldl (DC v) ((false,0),(false,0))=DC v ((p.take j).foldl (DC v) ((false,0),(false,0))) c:=by rw[Bb,ZHC];rfl
   obtain⟨st,BO⟩:∃st,(p.take j).foldl (DC v) ((false,0),(false,0))=st:=⟨_,rfl⟩;rw[BO]at Bk CA Jz⊢;obtain⟨JQ,hcl⟩:=Cd;obtain⟨l12,lb,lk⟩:=Bo.b (AG.lin JQ);have JP:=E7 JQ v;have ZFl:c.2.2.1.length=N:=by omega
   rw[show c.2.2.1.getD v 0=Z v c from rfl];refine⟨⟨by omega,ej'⟩,λh=>⟨h,trivial⟩,λh=>⟨h,trivial⟩,λh=>⟨h,h,by omega,by omega⟩,λh=>⟨h,trivial⟩,λh=>⟨h,trivial⟩,λh=>h,?_⟩;refine Lp.iter c.2.2.1.length (λk z=>z.1=(k:Int)∧z.2=( c.1==0&&Z v c !=0&&(List.range k).all λi=>decide (i=v)||decide (Z i c=0))) ⟨rfl,by simp⟩ ?_;rintro k⟨z,on⟩hk⟨hz,hon⟩R3 IE;simp only at hz hon;subst hz;dsimp only;by_cases ek:k<c.2.2.1.length;·rw[ZGB (show(k:Int)<((c.2.2.1.length:Nat):Int)by omega),ZGC,ZGD];refine⟨⟨by omega,by omega⟩,λh=>⟨h,h,trivial⟩,λh=>⟨h,trivial⟩,λh=>⟨h,trivial⟩,λh=>⟨h,λh'=>by rw[h,h'];rfl⟩,λh=>h,⟨by omega,by omega⟩,IE ek _ ⟨by simp,?_⟩⟩;simp only;rw[hon,ZIT,ZIR,←ZJr];congr 1;simp only[ZIj,ZJD,ZIC];congr 1;rw[ZHg,ZIF,ZGw];omega
   ·have :k=c.2.2.1.length:=by omega
    subst this;rw[ZGF (ZGH _),ZF9];have ZBe:on=N7 v c:=by
     rw[hon];unfold N7;rw[ZJr];congr 1;congr 1;by_cases h:Z v c=0;·simp[h]
     ·simp[h]
    rw[ZBe];have B2:∀(b0 b1:Bool)(lo2 hi2:List Int),lo2.length=N→hi2.length=N→b0=(DC v st c).1.1→b1=(DC v st c).2.1→lo2.getD v 0=(DC v st c).1.2→hi2.getD v 0=(DC v st c).2.2→(∀w,w≠v→lo2.getD w 0=lo.getD w 0∧hi2.getD w 0=hi.getD w 0)→R2 ((j:Int)+1,[b0,b1],lo2,hi2):=λb0 b1 lo2 hi2 k1 k2 k3 k4 k5 k6 k7=>BJ ej _ ⟨by simp,⟨k1,k2⟩,by simp only;rw[Jz,k3,k4],by simp only;rw[Jz];exact⟨k5,k6⟩,k7⟩;cases ho:N7 v c with
    |false=>
     have hb:DC v st c=st:=by unfold DC;rw[ZGE ho]
     rw[ZGz,ZGC];exact⟨⟨by omega,by omega⟩,B2 _ _ _ _ EJ G9 (by rw[hb]) (by rw[hb]) (by rw[hb];exact Bk) (by rw[hb];exact CA) hw⟩|true=>
     have hne:Z v c≠0:=by unfold N7 at ho;simp only[ZGW,ZG0]at ho;exact ho.2.1
     rw[ZGq,ZF9];refine⟨⟨by omega,by omega⟩,?_⟩;by_cases AU:0<Z v c
     ·have hb:DC v st c=if st.1.1=false∨st.1.2<Ja v c then((true,Ja v c),st.2)else st:=by unfold DC;rw[ZGA (by rw[ho];simp),ZGE AU]
      have ZA8:(EM.fn (-c.2.2.2,Z v c,())).1=Ja v c:=by show(if Z v c<1 then((0:Int),(1:Int))else(-(- -c.2.2.2/Z v c),0)).1=_;unfold Ja;rw[ZGA (by omega),ZLH]
      rw[ZGB AU,ZGC,ZA8,Bk];refine⟨⟨by omega,by omega⟩,⟨by show-2305843009213693952≤-c.2.2.2;omega,by show-c.2.2.2≤2305843009213693952;omega⟩,i0,l0 _ _,λh=>⟨h,h,by omega,by omega⟩,λh=>⟨h,by omega⟩,λh=>⟨h,h,trivial⟩,λh=>by rw[h];rfl,?_⟩;by_cases hq:st.1.1=false∨st.1.2<Ja v c;·rw[ZGE hq]at hb;rw[show(!st.1.1||decide (st.1.2<Ja v c))=true by simpa using hq,ZGC,s0];refine⟨⟨by omega,by omega⟩,by omega,i0,l0 _ _,⟨by omega,by omega⟩,B2 _ _ _ _ (by rw[ZHr];exact EJ) G9 (by rw[hb]) (by rw[hb]) (by rw[hb];exact jO (by omega)) (by rw[hb];exact CA) λw Nw=>?_⟩;rw[jP (ZG6 Nw)];exact hw w Nw
      ·rw[ZGA hq]at hb;rw[show(!st.1.1||decide (st.1.2<Ja v c))=false by simpa using hq,ZF9];exact⟨⟨by omega,by omega⟩,B2 _ _ _ _ EJ G9 (by rw[hb]) (by rw[hb]) (by rw[hb];exact Bk) (by rw[hb];exact CA) hw⟩
     ·have hb:DC v st c=if st.2.1=false∨JV v c<st.2.2 then(st.1,(true,JV v c))else st:=by unfold DC;rw[ZGA (by rw[ho];simp),ZGA AU]
      have MJ:(Dl.fn (c.2.2.2,-Z v c,())).1=JV v c:=by show(if-Z v c<1 then((0:Int),(1:Int))else(c.2.2.2/ -Z v c,0)).1=_;unfold JV;rw[ZGA (by omega)]
      rw[ZGF AU,ZF9,MJ,CA];refine⟨⟨by omega,by omega⟩,⟨by show-9223372036854775807≤c.2.2.2;omega,by show c.2.2.2≤9223372036854775807;omega⟩,i1,l1 _ _,λh=>⟨h,h,by omega,by omega⟩,λh=>⟨h,by omega⟩,λh=>⟨h,h,trivial⟩,λh=>by rw[h];rfl,?_⟩;by_cases hq:st.2.1=false∨JV v c<st.2.2;·rw[ZGE hq]at hb;rw[show(!st.2.1||decide (JV v c<st.2.2))=true by simpa using hq,ZGC,s1];refine⟨⟨by omega,by omega⟩,by omega,i1,l1 _ _,⟨by omega,by omega⟩,B2 _ _ _ _ EJ (by rw[ZHr];exact G9) (by rw[hb]) (by rw[hb]) (by rw[hb];exact Bk) (by rw[hb];exact jO (by omega)) λw Nw=>?_⟩;rw[jP (ZG6 Nw)];exact hw w Nw
      ·rw[ZGA hq]at hb;rw[show(!st.2.1||decide (JV v c<st.2.2))=false by simpa using hq,ZF9];exact⟨⟨by omega,by omega⟩,B2 _ _ _ _ EJ G9 (by rw[hb]) (by rw[hb]) (by rw[hb];exact Bk) (by rw[hb];exact CA) hw⟩
  ·have :j=p.length:=by omega
   subst this;rw[ZGF (ZGH _),ZF9];rw[ZGN]at Bk CA⊢;rw[show p.foldl (DC v) ((false,0),(false,0))=B1 p v from rfl]at Bk CA⊢;refine⟨i0,l0 _ _,λ_=>i1,λh=>⟨h,l1 _ _⟩,λh=>⟨h,trivial⟩,λh=>by rw[h];rfl,?_⟩;by_cases hq:(B1 p v).1.1=true∧(B1 p v).2.1=true
   ·rw[hq.1,hq.2,show(!true||!true)=false from rfl,ZF9];refine⟨⟨by omega,by omega⟩,hR e _ ⟨by simp,⟨EJ,G9⟩,λw Nw=>?_,λw k1 k2=>?_⟩⟩
    ·by_cases RO:w=v;·subst RO;exact⟨Bk,CA,hq.1,hq.2⟩
     ·simp only;rw[(hw w RO).1,(hw w RO).2];exact IG w (by omega)
    ·simp only;rw[(hw w (by omega)).1,(hw w (by omega)).2];exact Hx w (by omega) k2
   ·rw[show(!(B1 p v).1.1||!(B1 p v).2.1)=true by rw[←Bool.not_and,ZIl,ZJb];cases h1:(B1 p v).1.1 with|false=>exact .inl rfl|true=>cases h2:(B1 p v).2.1 with|false=>exact .inr rfl|true=>exact absurd ⟨h1,h2⟩ hq,ZGC];unfold IA;rw[ZGA];intro hall;have :=List.all_eq_true.1 hall v (List.mem_range.2 e);rw[ZGW]at this;exact hq this
 ·have :v=N:=by omega
  subst this;rw[ZGF (ZGH _),ZF9];unfold IA;rw[ZGE (List.all_eq_true.2 λw hw=>by have :=IG w (List.mem_range.1 hw);rw[this.2.2.1,this.2.2.2];rfl)];have e1:lo=(List.range v).map λw=>(B1 p w).1.2:=by refine ZHR (by simp[Gq]) λw h1 h2=>?_;have :=(IG w (by omega)).1;rw[A6 h1]at this;rw[this];simp
  have e2:hi=(List.range v).map λw=>(B1 p w).2.2:=by refine ZHR (by simp[Q5]) λw h1 h2=>?_;have :=(IG w (by omega)).2.1;rw[A6 h1]at this;rw[this];simp
  rw[e1,e2]
def C4:List (Int×Int)→Int|[]=>1|lh::L=>(lh.2-lh.1+1)*C4 L
def Dy:List (Int×Int)→List Int→Int|lh::L,x::xs=>(x-lh.1)*C4 L+Dy L xs|_,_=>0
def Gx:List (Int×Int)→List Int→Prop|[],[]=>True|lh::L,x::xs=>(lh.1≤x∧x≤lh.2)∧Gx L xs|_,_=>False
def GJ:List (Int×Int)→List Int→Option (List Int)
 |lh::L,x::xs=>match GJ L xs with|some ys=>some (x::ys)|none=>if x+1≤lh.2 then some ((x+1)::L.map (·.1))else none
 |_,_=>none
theorem Vg:∀{L:List (Int×Int)},(∀lh∈L,lh.1≤lh.2)→1≤C4 L|[],_=>by simp[C4]|lh::L,h=>by have h1:=Vg (L:=L) λx hx=>h x (ZGK _ hx);have h2:=h lh (by simp);have h3:=Rk (a:=lh.2-lh.1+1) (M:=C4 L) (by omega) (by omega);unfold C4;omega
theorem SB:∀{L:List (Int×Int)}{x:List Int},(∀lh∈L,lh.1≤lh.2)→Gx L x→0≤Dy L x∧Dy L x<C4 L
 |[],[],_,_=>by simp[Dy,C4]|[],_::_,_,h=>by cases h|_::_,[],_,h=>by cases h|lh::L,x::xs,hL,⟨⟨h1,h2⟩,h⟩=>by
  have hL':∀y∈L,y.1≤y.2:=λy hy=>hL y (ZGK _ hy);obtain⟨k1,k2⟩:=SB hL' h;have hT:=Vg hL';have h3:=ZID (a:=x-lh.1) (b:=C4 L) (by omega) (by omega);have h4:=ZID (a:=lh.2-x) (b:=C4 L) (by omega) (by omega);have e:(lh.2-lh.1+1)*C4 L=(x-lh.1)*C4 L+(lh.2-x)*C4 L+C4 L:=by grind
  show 0≤(x-lh.1)*C4 L+Dy L xs∧(x-lh.1)*C4 L+Dy L xs<(lh.2-lh.1+1)*C4 L;omega
theorem rJ:∀{L:List (Int×Int)}{x y:List Int},(∀lh∈L,lh.1≤lh.2)→Gx L x→Gx L y→Dy L x=Dy L y→x=y
 |[],[],[],_,_,_,_=>rfl|[],[],_::_,_,_,h,_=>by cases h|[],_::_,_,_,h,_,_=>by cases h|_::_,[],_,_,h,_,_=>by cases h|_::_,_::_,[],_,_,h,_=>by cases h|lh::L,x::xs,y::ys,hL,⟨h1,hx⟩,⟨h2,hy⟩,h=>by
  have hL':∀y∈L,y.1≤y.2:=λy hy=>hL y (ZGK _ hy);obtain⟨k1,k2⟩:=SB hL' hx;obtain⟨k3,k4⟩:=SB hL' hy;have hT:=Vg hL';unfold Dy at h;have e1:=TN (a:=(x-lh.1)*C4 L+Dy L xs) (b:=C4 L) (q:=x-lh.1) (r:=Dy L xs) (by grind) k1 k2;have e2:=TN (a:=(x-lh.1)*C4 L+Dy L xs) (b:=C4 L) (q:=y-lh.1) (r:=Dy L ys) (by rw[h];grind) k3 k4;have RR:x=y:=by omega
  subst RR;have :xs=ys:=rJ hL' hx hy (by omega);rw[this]
theorem ZZ:∀{L:List (Int×Int)},(∀lh∈L,lh.1≤lh.2)→Gx L (L.map (·.1))∧Dy L (L.map (·.1))=0|[],_=>⟨trivial,rfl⟩|lh::L,h=>by obtain⟨h1,h2⟩:=ZZ (L:=L) λx hx=>h x (ZGK _ hx);have h3:=h lh (by simp);rw[ZGi];refine⟨⟨⟨by omega,h3⟩,h1⟩,?_⟩;unfold Dy;rw[h2];simp
theorem nO:∀{L:List (Int×Int)}{x:List Int},(∀lh∈L,lh.1≤lh.2)→Gx L x→(GJ L x=none→Dy L x=C4 L-1)∧∀y,GJ L x=some y→Gx L y∧Dy L y=Dy L x+1
 |[],[],_,_=>⟨λ_=>rfl,λy h=>by cases h⟩|[],_::_,_,h=>by cases h|_::_,[],_,h=>by cases h|lh::L,x::xs,hL,⟨⟨h1,h2⟩,h⟩=>by
  have hL':∀y∈L,y.1≤y.2:=λy hy=>hL y (ZGK _ hy);obtain⟨k1,k2⟩:=nO hL' h;have hT:=Vg hL';rcases CN (GJ L xs)with e|⟨ys,e⟩
  ·have k1:=k1 e;by_cases hm:x+1≤lh.2
   ·have hi:GJ (lh::L) (x::xs)=some ((x+1)::L.map (·.1)):=by unfold GJ;rw[e];exact ZGE hm
    rw[hi];refine⟨λh=>(by cases h),λy hy=>?_⟩;cases hy;obtain⟨j1,j2⟩:=ZZ hL';refine⟨⟨⟨by omega,hm⟩,j1⟩,?_⟩;unfold Dy;rw[j2,k1];grind
   ·have hi:GJ (lh::L) (x::xs)=none:=by unfold GJ;rw[e];exact ZGA hm
    rw[hi];refine⟨λ_=>?_,λy hy=>by cases hy⟩;have :x=lh.2:=by omega
    subst this;show(lh.2-lh.1)*C4 L+Dy L xs=(lh.2-lh.1+1)*C4 L-1;rw[k1];grind
  ·have hi:GJ (lh::L) (x::xs)=some (x::ys):=by unfold GJ;rw[e]
   rw[hi];refine⟨λh=>(by cases h),λy hy=>?_⟩;cases hy;obtain⟨j1,j2⟩:=k2 ys e;refine⟨⟨⟨h1,h2⟩,j1⟩,?_⟩;unfold Dy;rw[j2];omega
theorem zA{C:List Int}{v:Nat}(hv:v<C.length)(h:∀i,i<C.length→i≠v→C.getD i 0=0):∀n∈Az C v,n=0:=by
 intro n hn;obtain⟨k,hk,rfl⟩:=Fe (d:=0) hn;have hl:=NC hv;by_cases e:k<v;·have :=Wb (C:=C) (v:=v) (i:=k) (by omega) (by omega);rw[show ix v k=k by unfold ix;rw[ZGE (by omega)]]at this;rw[this];exact h k (by omega) (by omega)
 ·have :=Wb (C:=C) (v:=v) (i:=k+1) (by omega) (by omega);rw[show ix v (k+1)=k by unfold ix;rw[ZGA (by omega)];omega]at this;rw[this];exact h (k+1) (by omega) (by omega)
theorem ZC0{c:O}{v:Nat}{x:List Int}(hl:c.2.2.1.length=x.length)(hv:v<x.length)(ho:N7 v c=true):c.1=0∧Z v c≠0∧Ah c.2.2 x=c.2.2.2+Z v c*x.getD v 0:=by
 unfold N7 at ho;simp only[ZGW,ZG0,ZHi,ZHn,ZH5]at ho;obtain⟨h1,h2,h3⟩:=ho;refine⟨h1,h2,?_⟩;have hx:=ZF x v hv;have hcl:=NC hv;have :=cH (c:=c) (v:=v) (t:=x.getD v 0) (x:=Az x v) (by omega) (by omega);rw[hx]at this;rw[this];have hz:Ah (AI v c) (Az x v)=c.2.2.2:=by show c.2.2.2+A0 (Az c.2.2.1 v) (Az x v)=_;rw[QP (zA (by omega) λi hi hne=>(h3 i hi).resolve_left hne)];omega
 rw[hz]
theorem eF{p:List O}{v:Nat}{x:List Int}(hd:∀c∈p,c.2.2.1.length=x.length)(hv:v<x.length)(hin:As p x=true):((B1 p v).1.1=true→(B1 p v).1.2≤x.getD v 0)∧((B1 p v).2.1=true→x.getD v 0≤(B1 p v).2.2):=by
 rw[MV]at hin;unfold B1;have key:∀(l:List O)(st:(Bool×Int)×Bool×Int),(∀c∈l,c∈p)→(st.1.1=true→st.1.2≤x.getD v 0)∧(st.2.1=true→x.getD v 0≤st.2.2)→((l.foldl (DC v) st).1.1=true→(l.foldl (DC v) st).1.2≤x.getD v 0)∧((l.foldl (DC v) st).2.1=true→x.getD v 0≤(l.foldl (DC v) st).2.2):=by intro l;induction l with|nil=>intro st _ h;exact h|cons c l ih=>
  intro st hl h;rw[ZG3];refine ih _ (λd hd=>hl d (ZGK _ hd)) ?_;have hc:=hl c (by simp);unfold DC;split;·exact h
  ·rename_i ho;obtain⟨h1,h2,h3⟩:=ZC0 (hd c hc) hv (by simpa using ho);have hT:=hin c hc;unfold Bs at hT;rw[ZGE h1,h3]at hT;split
   ·rename_i hp;split;·refine⟨λ_=>?_,h.2⟩;exact(XY hp).1 hT
    ·exact h
   ·rename_i hp;split
    ·refine⟨h.1,λ_=>?_⟩;have e:c.2.2.2- -Z v c*x.getD v 0=c.2.2.2+Z v c*x.getD v 0:=by grind
     exact(ZS (b:=-Z v c) (by omega)).1 (by rw[e];exact hT)
    ·exact h
 exact key p _ (λ_ h=>h) ⟨λh=>(by cases h),λh=>by cases h⟩
theorem ZB:∀{N:Nat}{f:Nat→Int×Int}{x:List Int},x.length=N→(∀v,v<N→(f v).1≤x.getD v 0∧x.getD v 0≤(f v).2)→Gx ((List.range N).map f) x|0,_,[],_,_=>trivial|0,_,_::_,h,_=>by cases h|N+1,_,[],h,_=>by cases h|N+1,f,y::x,h,hb=>by rw[ZJX,ZGi,ZHP];refine⟨by simpa using hb 0 (by omega),ZB (by simpa using h) λv hv=>?_⟩;have :=hb (v+1) (by omega);simpa using this
theorem tZ:∀(L:List (Int×Int))(a:Int×Int),C4 (L++[a])=C4 L*(a.2-a.1+1)|[],a=>by simp[C4]|b::L,a=>by show(b.2-b.1+1)*C4 (L++[a])=(b.2-b.1+1)*C4 L*(a.2-a.1+1);rw[tZ L a];grind
theorem nP:∀{v:Nat}{L:List (Int×Int)}{x ys:List Int},L.length=x.length→v≤x.length→GJ (L.drop v) (x.drop v)=some ys→GJ L x=some (x.take v++ys)|0,L,x,ys,_,_,h=>by simpa using h|v+1,[],x,ys,hl,hv,_=>by simp at hl;omega|v+1,_::_,[],ys,hl,hv,_=>by simp at hl|v+1,b::L,y::x,ys,hl,hv,h=>by have ih:=nP (v:=v) (L:=L) (x:=x) (ys:=ys) (by simpa using hl) (by simpa using hv) (by simpa using h);unfold GJ;rw[ih];rfl
theorem Pu{most:Int}{r:Bool×Bool}:∀(l:List (Int×Int)),l.foldl (OK most) (.inr r)=.inr r|[]=>rfl|_::l=>Pu l
theorem xM{p:List O}(hp:∀c∈p,AG c=true)(v:Nat):(-1048576≤(B1 p v).1.2∧(B1 p v).1.2≤1048576)∧-1048576≤(B1 p v).2.2∧(B1 p v).2.2≤1048576:=by
 unfold B1;have key:∀(l:List O)(st:(Bool×Int)×Bool×Int),(∀c∈l,c∈p)→(-1048576≤st.1.2∧st.1.2≤1048576)∧-1048576≤st.2.2∧st.2.2≤1048576→(-1048576≤(l.foldl (DC v) st).1.2∧(l.foldl (DC v) st).1.2≤1048576)∧-1048576≤(l.foldl (DC v) st).2.2∧(l.foldl (DC v) st).2.2≤1048576:=by intro l;induction l with|nil=>intro st _ h;exact h|cons c l ih=>
  intro st hl h;rw[ZG3];refine ih _ (λd hd=>hl d (ZGK _ hd)) ?_;have lk:=(Bo.b (AG.lin (hp c (hl c (by simp))))).2.2;have b1:=Of (a:=c.2.2.2) (b:=Z v c) (M:=1048576) (by omega);have b2:=Of (a:=c.2.2.2) (b:=-Z v c) (M:=1048576) (by omega);unfold DC;split;·exact h
  ·split
   ·split;·exact⟨by show-1048576≤Ja v c∧Ja v c≤1048576;unfold Ja;omega,h.2⟩
    ·exact h
   ·split;·exact⟨h.1,by show-1048576≤JV v c∧JV v c≤1048576;unfold JV;omega⟩
    ·exact h
 exact key p _ (λ_ h=>h) ⟨⟨by simp,by simp⟩,by simp,by simp⟩
theorem ZCA{L:List (Int×Int)}{x:List Int}{v:Nat}(hl:L.length=x.length)(hv:v<x.length)(h:GJ (L.drop (v+1)) (x.drop (v+1))=none):GJ (L.drop v) (x.drop v)=if x.getD v 0+1≤(L.getD v (0,0)).2 then some ((x.getD v 0+1)::(L.drop (v+1)).map (·.1))else none:=by
 have e1:L.drop v=L.getD v (0,0)::L.drop (v+1):=by rw[ZGG,ZGU (by omega)];simp
 have e2:x.drop v=x.getD v 0::x.drop (v+1):=by rw[ZGG,ZGU hv];simp
 rw[e1,e2];show(match GJ (L.drop (v+1)) (x.drop (v+1))with|some ys=>some (x.getD v 0::ys)|none=>if x.getD v 0+1≤(L.getD v (0,0)).2 then some ((x.getD v 0+1)::List.map (λlh:Int×Int=>lh.1) (L.drop (v+1)))else none)=_;rw[h]
theorem ZEd{x l:List Int}{v:Nat}(hv:v<x.length):(x.take (v+1)++l).getD v 0=x.getD v 0:=by rw[ZGG,ZHK (by rw[ZGP];omega),ZGg,ZGE (by omega),←ZGG]
theorem ZEe{x l:List Int}{v:Nat}{y:Int}(hv:v<x.length):(x.take (v+1)++l).set v y=x.take v++y::l:=by have hs:x.take (v+1)=x.take v++[x.getD v 0]:=B0 0 hv;rw[hs,ZGy,ZIO _ _ (by rw[ZGP];omega)];congr 1;rw[ZGP,show v-min v x.length=0 by omega];rfl
theorem nK:∀{L:List (Int×Int)}{x:List Int},Gx L x→x.length=L.length∧∀v,v<L.length→(L.getD v (0,0)).1≤x.getD v 0∧x.getD v 0≤(L.getD v (0,0)).2|[],[],_=>⟨rfl,λv hv=>by simp at hv⟩|[],_::_,h=>by cases h|_::_,[],h=>by cases h|lh::L,x::xs,⟨h1,h⟩=>by obtain⟨k1,k2⟩:=nK h;refine⟨by simp[k1],λv hv=>?_⟩;cases v with|zero=>exact h1|succ v=>simpa using k2 v (by simpa using hv)
theorem Fc.spec(p:List O)(n most:Int)(hp:Fc.pre (p,n,most,())):Fc.wp p n most λr=>r=Fc.fn (p,n,most,()):=by
 obtain⟨Iz,EV,Iy⟩:pieceN p n∧1≤most∧most≤1048576:=hp;obtain⟨N,rfl⟩:∃N:Nat,n=(N:Int):=⟨n.toNat,by have :=Iz.2.2.1;omega⟩;have C1:N≤12:=by have :=Iz.2.2.2;omega
 rw[show Fc.fn (p,(N:Int),most,())=JC p N most from rfl];unfold Fc.wp;dsimp only;refine⟨Iz,?_⟩;rw[show Fb.fn (p,(N:Int),())=IA p N from rfl];have hvalid:∀c∈p,AG c=true:=λc hc=>(Iz.2.1 c hc).1;have Tv:∀x:List Int,x.length=N→∀c∈p,c.2.2.1.length=x.length:=λx hx c hc=>by have :=(Iz.2.1 c hc).2;omega
 by_cases Tq:(IA p N).2.2=false;·rw[Tq,ZGz,ZGC];unfold JC;rw[ZGE Tq]
 ·have Jx:(IA p N).2.2=true:=by simpa using Tq
  rw[Jx,ZGq,ZF9];have hall:((List.range N).all λv=>(B1 p v).1.1&&(B1 p v).2.1)=true:=by
   unfold IA at Jx;split at Jx;·rename_i h;exact h
   ·cases Jx
  have Xu:IA p N=((List.range N).map λv=>(B1 p v).1.2,(List.range N).map λv=>(B1 p v).2.2,true):=by unfold IA;rw[ZGE hall]
  have hw:JC p N most=match OJ most (KS p N)with|.inr r=>r|.inl _=>(@decide (∃x:List Int,x.length=N∧As p x=true) (Classical.propDecidable _),true):=by unfold JC;rw[ZGA Tq];first|done|(cases OJ most (KS p N)<;>rfl)
  have mY:∀v,v<N→(B1 p v).1.1=true∧(B1 p v).2.1=true:=λv hv=>by have :=List.all_eq_true.1 hall v (List.mem_range.2 hv);rwa[ZGW]at this
  rw[Xu];dsimp only;obtain⟨lo,EK⟩:∃lo,(List.range N).map (λv=>(B1 p v).1.2)=lo:=⟨_,rfl⟩;obtain⟨hi,J0⟩:∃hi,(List.range N).map (λv=>(B1 p v).2.2)=hi:=⟨_,rfl⟩;have llo:lo.length=N:=by rw[←EK];simp
  have lhi:hi.length=N:=by rw[←J0];simp
  have glo:∀v,v<N→lo.getD v 0=(B1 p v).1.2:=λv hv=>by rw[←EK,A6 (by simpa using hv)];simp
  have ghi:∀v,v<N→hi.getD v 0=(B1 p v).2.2:=λv hv=>by rw[←J0,A6 (by simpa using hv)];simp
  obtain⟨L,hL⟩:∃L,KS p N=L:=⟨_,rfl⟩;have lL:L.length=N:=by rw[←hL];simp[KS]
  have gL:∀v,v<N→L.getD v (0,0)=(lo.getD v 0,hi.getD v 0):=λv hv=>by rw[glo v hv,ghi v hv,←hL];unfold KS;rw[A6 (by simpa using hv)];simp
  have kJ:L.map (·.1)=lo:=by rw[←hL,←EK];unfold KS;rw[ZHP];rfl
  rw[EK,J0];rw[hL]at hw;have D3:∀v,v<N→(-1048576≤lo.getD v 0∧lo.getD v 0≤1048576)∧-1048576≤hi.getD v 0∧hi.getD v 0≤1048576:=λv hv=>by rw[glo v hv,ghi v hv];exact xM hvalid v
  have hin:∀x:List Int,x.length=N→As p x=true→Gx L x:=λx hx CB=>by rw[←hL];refine ZB hx λv hv=>?_;obtain⟨k1,k2⟩:=eF (v:=v) (Tv x hx) (by omega) CB;exact⟨k1 (mY v hv).1,k2 (mY v hv).2⟩
  have Bz:(∀z,Gx L z→As p z=false)→¬∃x:List Int,x.length=N∧As p x=true:=λh⟨x,k1,k2⟩=>by rw[h x (hin x k1 k2)]at k2;cases k2
  refine Lp.iter N (λv y=>y.1=(v:Int)∧(L.take v).foldl (OK most) (.inl 1)=.inl y.2∧y.2=C4 (L.take v)∧(1≤y.2∧y.2≤most)∧∀w,w<v→lo.getD w 0≤hi.getD w 0) ⟨rfl,by simp,by simp[C4],⟨by simp,EV⟩,λw hw=>absurd hw (by omega)⟩ ?_;rintro v⟨y,sz⟩hv⟨hy,Jz,Am,⟨DD,En⟩,hle⟩R hR;simp only at hy Jz Am DD En hle;subst hy;dsimp only;by_cases e:v<N
  ·rw[ZGB (show(v:Int)<(N:Int)by omega),ZGC,ZGD];have hb:=D3 v e;have Bb:L.take (v+1)=L.take v++[(lo.getD v 0,hi.getD v 0)]:=by rw[B0 (0,0) (by omega),gL v e]
   have PU:L=L.take v++(lo.getD v 0,hi.getD v 0)::L.drop (v+1):=by rw[←gL v e,ZGG,ZGU (by omega)];simp
   have UO:∀r,OK most (.inl sz) (lo.getD v 0,hi.getD v 0)=.inr r→OJ most L=.inr r:=λr hr=>by unfold OJ;rw[PU,ZHC,Jz,ZG3,hr,Pu]
   have hstep:OK most (.inl sz) (lo.getD v 0,hi.getD v 0)=if hi.getD v 0<lo.getD v 0 then .inr (false,true)else if most≤hi.getD v 0-lo.getD v 0 then .inr (false,false)else if most<sz*(hi.getD v 0-lo.getD v 0+1)then .inr (false,false)else .inl (sz*(hi.getD v 0-lo.getD v 0+1)):=rfl;obtain⟨a,ha⟩:∃a,lo.getD v 0=a:=⟨_,rfl⟩;obtain⟨b,Qt⟩:∃b,hi.getD v 0=b:=⟨_,rfl⟩;rw[ha,Qt]at hb Bb UO hstep;rw[ha,Qt];refine⟨⟨by omega,by omega⟩,⟨by omega,by omega⟩,?_⟩;by_cases c1:b<a;·rw[ZGB c1,ZGC,hw,UO _ (hstep.trans (ZGE c1))]
   ·rw[ZGF c1,ZF9];rw[ZGA c1]at hstep;refine⟨⟨by omega,by omega⟩,⟨by omega,by omega⟩,⟨by omega,by omega⟩,?_⟩;by_cases c2:most≤b-a;·rw[ZGB c2,ZGC,hw,UO _ (hstep.trans (ZGE c2))]
    ·rw[ZGF c2,ZF9];rw[ZGA c2]at hstep;have ZBm:0≤sz*(b-a+1)∧sz*(b-a+1)≤1048576*1048576:=⟨ZID (by omega) (by omega),ZKX (by omega) (by omega) (by omega) (by omega)⟩;have FW:=Rk (a:=b-a+1) (M:=sz) (by omega) (by omega);have Cd:(b-a+1)*sz=sz*(b-a+1):=ZIK _ _;have hT:C4 (L.take (v+1))=sz*(b-a+1):=by rw[Bb,tZ,←Am]
     obtain⟨P,hP⟩:∃P,sz*(b-a+1)=P:=⟨_,rfl⟩;rw[hP]at ZBm hstep Cd hT⊢;refine⟨⟨by omega,by omega⟩,⟨by omega,by omega⟩,⟨by omega,by omega⟩,⟨by omega,by omega⟩,⟨by omega,by omega⟩,?_⟩;by_cases c3:most<P;·rw[ZGB c3,ZGC,hw,UO _ (hstep.trans (ZGE c3))]
     ·rw[ZGF c3,ZF9];rw[ZGA c3]at hstep;refine⟨⟨by omega,by omega⟩,hR e _ ⟨by simp,?_,hT.symm,⟨by simp only;omega,by simp only;omega⟩,λw Nw=>?_⟩⟩;·rw[Bb,ZHC,Jz];exact hstep
      ·by_cases RO:w=v;·subst RO;rw[ha,Qt];omega
       ·exact hle w (by omega)
  ·have :v=N:=by omega
   subst this;rw[ZGF (ZGH _),ZF9];rw[show L.take v=L by rw[←lL,ZGN]]at Jz Am;have IS:JC p v most=(@decide (∃x:List Int,x.length=v∧As p x=true) (Classical.propDecidable _),true):=by rw[hw,show OJ most L=.inl sz from Jz]
   rw[IS];have Qp:∀lh∈L,lh.1≤lh.2:=λlh Q5=>by obtain⟨w,hw,rfl⟩:=Fe (d:=((0,0):Int×Int)) Q5;rw[gL w (by omega)];exact hle w (by omega)
   refine⟨⟨by simp only[ZGS];omega,by simp only[ZGS];omega⟩,?_⟩;rw[ZG8];have DM:=ZZ Qp;rw[kJ]at DM;refine Lp.iter sz.toNat (λi y=>y.1=(i:Int)∧y.2.length=v∧(∀z,Gx L z→Dy L z<(i:Int)→As p z=false)∧((i:Int)<sz→Gx L y.2∧Dy L y.2=(i:Int))) ⟨rfl,llo,λz hz hr=>by have :=(SB Qp hz).1;omega,λ_=>DM⟩ ?_;rintro i⟨y,x⟩hi2⟨hy,GG,Yq,NW⟩R6 hR6;simp only at hy GG Yq NW;subst hy;dsimp only;by_cases ei:i<sz.toNat
   ·have ei':(i:Int)<sz:=by omega
    obtain⟨Y8,hxr⟩:=NW ei';obtain⟨_,hxg⟩:=nK Y8;rw[ZGB ei',ZGC];have nE:∀w,w<v→-1048576≤x.getD w 0∧x.getD w 0≤1048576:=λw hw=>by have h1:=hxg w (by omega);rw[gL w hw]at h1;have h2:=D3 w hw;simp only at h1;omega
    refine⟨λc hc=>⟨hvalid c hc,Tv x GG c hc,λm hm=>?_⟩,?_⟩;·obtain⟨w,hw,rfl⟩:=Fe (d:=0) hm;have hw:w<x.length:=hw;have :=nE w (by omega);unfold DA;simp only[ZGW,ZG0];omega
    ·rw[show Ea.fn (p,x,())=As p x from rfl];cases hx:As p x with|true=>rw[ZGC];have :∃x:List Int,x.length=v∧As p x=true:=⟨x,GG,hx⟩;simp[this]|false=>
     rw[ZF9];refine⟨⟨by omega,by omega⟩,?_⟩;have ZBl:∀z,Gx L z→Dy L z<(i:Int)+1→As p z=false:=λz hz hr=>by
      by_cases h:Dy L z<(i:Int);·exact Yq z hz h
      ·rw[rJ Qp hz Y8 (by omega)];exact hx
     have lO:=nO Qp Y8;have KA:∀x':List Int,x'.length=v→((i:Int)+1<sz→Gx L x'∧Dy L x'=(i:Int)+1)→R6 ((i:Int)+1,x'):=λx' k1 k2=>hR6 ei _ ⟨by simp,k1,λz hz hr=>ZBl z hz (by simpa using hr),λh=>by have :=k2 (by simpa using h);exact⟨this.1,by rw[this.2];simp⟩⟩;refine Lp.iter v (λk z=>z.1=(v:Int)-(k:Int)-1∧z.2=x.take (v-k)++lo.drop (v-k)∧GJ (L.drop (v-k)) (x.drop (v-k))=none) ⟨by simp,?_,?_⟩ ?_;·simp only[ZIs];rw[←GG,ZGN,GG,←llo,ZHN,ZGZ]
     ·simp only[ZIs];rw[show L.drop v=[]by rw[←lL,ZHN],show x.drop v=[]by rw[←GG,ZHN]];rfl
     ·rintro k⟨z,cur⟩hk⟨hz,kX,Gs⟩R8 hR8;simp only at hz kX Gs;subst hz kX;dsimp only;by_cases ek:k<v
      ·obtain⟨m,hm⟩:∃m,v-k=m+1:=⟨v-k-1,by omega⟩;have hm':(v:Int)-(k:Int)-1=(m:Int):=by omega
       have Gr:m<v:=by omega
       rw[hm]at Gs⊢;rw[hm',ZGD,ZGB (show(0:Int)≤(m:Int)by omega),ZGC];have hcl:(x.take (m+1)++lo.drop (m+1)).length=v:=by simp only[ZGI,ZGP,ZG1];omega
       rw[ZEd (by omega),ZEe (by omega)];have kU:∀y:Int,(x.take m++y::lo.drop (m+1)).length=v:=λy=>by simp only[ZGI,ZGL,ZGP,ZG1];omega
       have hgy:∀y:Int,(x.take m++y::lo.drop (m+1)).getD m 0=y:=λy=>by rw[ZGG,ZG5 (by rw[ZGP];omega),ZGP,show m-min m x.length=0 by omega];rfl
       have hsy:∀y y':Int,(x.take m++y::lo.drop (m+1)).set m y'=x.take m++y'::lo.drop (m+1):=λy y'=>by rw[ZIO _ _ (by rw[ZGP];omega),ZGP,show m-min m x.length=0 by omega];rfl
       have hxm:=nE m Gr;have hd:=ZCA (L:=L) (x:=x) (v:=m) (by omega) (by omega) Gs;rw[gL m Gr]at hd;rw[hgy,hsy,hcl,kU];refine⟨⟨by omega,by omega⟩,by omega,⟨by omega,by omega⟩,⟨by omega,by omega⟩,by omega,⟨by omega,by omega⟩,by omega,⟨by omega,by omega⟩,?_⟩;by_cases hc:x.getD m 0+1≤hi.getD m 0;·rw[ZGB hc,ZGC];rw[ZGE hc]at hd;have hi':=nP (v:=m) (by omega) (by omega) hd;rw[ZKo,kJ]at hi';obtain⟨k1,k2⟩:=lO.2 _ hi';exact⟨⟨by omega,by omega⟩,KA _ (kU _) λ_=>⟨k1,by rw[k2,hxr]⟩⟩
       ·rw[ZGF hc,ZF9];rw[ZGA hc]at hd;refine⟨⟨by omega,by omega⟩,⟨by omega,by omega⟩,by omega,⟨by omega,by omega⟩,hR8 ek _ ⟨by simp only;omega,?_,?_⟩⟩;·simp only;rw[show v-(k+1)=m by omega];congr 1;rw[ZGG,ZGU (by omega)];simp
        ·rw[show v-(k+1)=m by omega];exact hd
      ·have :k=v:=by omega
       subst this;rw[ZIr]at Gs⊢;rw[ZGF (by omega),ZF9];have KB:GJ L x=none:=by simpa using Gs
       have hr:=lO.1 KB;refine⟨⟨by omega,by omega⟩,KA _ (by simp[llo]) λh=>?_⟩;rw[hxr,←Am]at hr;omega
   ·have :i=sz.toNat:=by omega
    subst this;rw[ZGF (by omega),ZF9];have hne:¬∃x:List Int,x.length=v∧As p x=true:=Bz λz hz=>Yq z hz (by have :=(SB Qp hz).2;omega);simp[hne]
theorem sO{most:Int}:∀(L:List (Int×Int))(st:Int⊕Bool×Bool)(r:Bool×Bool),(∀q,st=.inr q→q=(false,false)∨q=(false,true))→L.foldl (OK most) st=.inr r→r=(false,false)∨st=.inr r∨r=(false,true)∧∃lh∈L,lh.2<lh.1
 |[],st,r,_,h=>.inr (.inl h)|lh::L,.inr q,r,_,h=>by rw[Pu]at h;exact .inr (.inl h)|lh::L,.inl sz,r,_,h=>by
  rw[ZG3]at h;have hstep:OK most (.inl sz) lh=if lh.2<lh.1 then .inr (false,true)else if most≤lh.2-lh.1 then .inr (false,false)else if most<sz*(lh.2-lh.1+1)then .inr (false,false)else .inl (sz*(lh.2-lh.1+1)):=rfl;rw[hstep]at h;split at h;·rename_i c1;rw[Pu]at h;cases h;exact .inr (.inr ⟨rfl,lh,by simp,c1⟩)
  ·split at h;·rw[Pu]at h;cases h;exact .inl rfl
   ·split at h;·rw[Pu]at h;cases h;exact .inl rfl
    ·rcases sO L _ r (λq hq=>by cases hq) h with k|k|⟨k1,a,k2,k3⟩;·exact .inl k
     ·cases k
     ·exact .inr (.inr ⟨k1,a,ZGK _ k2,k3⟩)
theorem nL:∀{L:List (Int×Int)}{x:List Int},Gx L x→∀lh∈L,lh.1≤lh.2
 |[],_,_,lh,h=>by cases h|a::L,[],h,_,_=>by cases h|a::L,x::xs,⟨⟨h1,h2⟩,h⟩,lh,hm=>by
  rcases List.mem_cons.1 hm with rfl|hm;·omega
  ·exact nL h lh hm
theorem ZE5{p:List O}{N:Nat}{most:Int}(hp:pieceN p (N:Int))(h:(JC p N most).2=true):(JC p N most).1=true↔∃x:List Int,x.length=N∧As p x=true:=by
 by_cases hb:(IA p N).2.2=false;·unfold JC at h;rw[ZGE hb]at h;cases h
 ·have hall:((List.range N).all λv=>(B1 p v).1.1&&(B1 p v).2.1)=true:=by
   have Jx:(IA p N).2.2=true:=by simpa using hb
   unfold IA at Jx;split at Jx;·rename_i h;exact h
   ·cases Jx
  have hin:∀x:List Int,x.length=N→As p x=true→Gx (KS p N) x:=λx hx CB=>by refine ZB hx λv hv=>?_;have ht:=List.all_eq_true.1 hall v (List.mem_range.2 hv);rw[ZGW]at ht;obtain⟨k1,k2⟩:=eF (p:=p) (v:=v) (x:=x) λc hc=>by have :=(hp.2.1 c hc).2;omega (by omega) CB;exact⟨k1 ht.1,k2 ht.2⟩
  unfold JC at h⊢;rw[ZGA hb]at h⊢;cases hs:OJ most (KS p N)with|inl z=>simp|inr r=>
   rw[hs]at h;simp only at h;rcases sO (KS p N) _ r (λq hq=>by cases hq) hs with k|k|⟨k1,lh,k2,k3⟩;·rw[k]at h;cases h
   ·cases k
   ·simp only;rw[k1];constructor;·intro h;cases h
    ·rintro⟨x,hx,CB⟩;have :=nL (hin x hx CB) lh k2;omega
theorem law05_ElimNone.spec(s:AM):law05_ElimNone.wp s λr=>r=true:=by
 unfold law05_ElimNone.wp;dsimp only;rw[show BF.fn ()=true from rfl,show Aw.fn (s,())=DW s from rfl,show CO.fn (s,())=AY s from rfl];refine⟨λh=>⟨h,trivial⟩,λh=>⟨h,trivial⟩,λh=>by rw[h];rfl,?_⟩;by_cases hc:Br.fn ((4:Int),((12:Int),((3:Int),([s],()))))=false∨AY s=false;·rw[show(!Br.fn ((4:Int),((12:Int),((3:Int),([s],()))))||!AY s)=true by simpa using hc,ZGC]
 ·rw[show(!Br.fn ((4:Int),((12:Int),((3:Int),([s],()))))||!AY s)=false by simpa using hc,ZF9];rw[ZGx]at hc;have hv:AY s=true:=by simpa using hc.2
  have hb:=AY.b hv;have RL:=hb.2.2.1;obtain⟨N,hN⟩:∃N:Nat,s.1=(N:Int):=⟨s.1.toNat,by omega⟩;have Iz:∀q∈s.2,pieceN q (N:Int):=λq hq=>by obtain⟨k1,k2⟩:=hb.2.2.2 q hq;exact⟨by omega,λc hc=>⟨(k2 c hc).1,by rw[←hN];exact(k2 c hc).2⟩,by omega,by omega⟩
  refine Lp.iter s.2.length (λi y=>y.1=(i:Int)∧(y.2=true↔∀q∈s.2.take i,¬∃x:List Int,x.length=N∧As q x=true)) ⟨rfl,by simp⟩ ?_;rintro i⟨y,none_⟩hi⟨hy,Bz⟩R hR;simp only at hy Bz;subst hy;dsimp only;by_cases e:i<s.2.length
  ·have e':(i:Int)<((s.2.length:Nat):Int):=by omega
   rw[ZGB e',ZGC,ZGD];have hq:=Iz _ (AV (d:=[]) e);have Bb:=B0 [] e;obtain⟨q,I0⟩:∃q,s.2.getD i []=q:=⟨_,rfl⟩;rw[I0]at hq Bb⊢;rw[show Fc.fn (q,s.1,(3000:Int),())=JC q N 3000 by show JC q s.1.toNat 3000=_;rw[hN,ZGD]];refine⟨⟨by omega,e'⟩,⟨by show pieceN q s.1;rw[hN];exact hq,by show(1:Int)≤3000;omega,by show(3000:Int)≤1048576;omega⟩,?_⟩;cases hk:(JC q N 3000).2 with|false=>rw[ZGz,ZGC]|true=>
    rw[ZGq,ZF9];have nB:=ZE5 hq hk;refine⟨λh=>⟨h,trivial⟩,λh=>h,⟨by omega,by omega⟩,hR e _ ⟨by simp,?_⟩⟩;simp only;rw[ZGW,Bz,Bb,ZIl];constructor
    ·rintro⟨k1,k2⟩z hz;rcases List.mem_append.1 hz with hz|hz;·exact k1 z hz
     ·rw[List.mem_singleton.1 hz,←nB,k2];simp
    ·intro k;refine⟨λz hz=>k z (List.mem_append.2 (.inl hz)),?_⟩;have :=k q (List.mem_append.2 (.inr (List.mem_singleton.2 rfl)));rw[←nB]at this;simpa using this
  ·have :i=s.2.length:=by omega
   subst this;rw[ZGN]at Bz;rw[ZGF (ZGH _),ZF9];refine⟨λh=>⟨h,trivial⟩,λh=>h,λh=>⟨h,trivial⟩,λh=>⟨h,trivial⟩,λh=>⟨h,h,trivial⟩,λh=>⟨h,λh'=>by rw[h,h'];rfl⟩,λh=>by rw[h];rfl,λh=>h,?_⟩;rw[ZIC];rcases ZAT hv with h0|⟨h3,h1⟩
   ·have he:(DW s).1=none_:=by cases hE:(DW s).1 with
     |true=>cases hn:none_ with|true=>rfl|false=>
      exfalso;have :none_=true:=Bz.2 λq hq⟨x,hx,CB⟩=>by have :=iF h0 hE (x:=x) (by omega);rw[I3.2 ⟨q,hq,CB⟩]at this;cases this
      rw[hn]at this;cases this
     |false=>cases hn:none_ with|false=>rfl|true=>exfalso;obtain⟨x,hx,CB⟩:=ZAU h0 hE;obtain⟨q,hq,h⟩:=I3.1 CB;exact Bz.1 hn q hq ⟨x,by omega,h⟩
    rw[h0,he];simp
   ·rw[h3,h1];simp
end Go.Proofs.YtgpdnmfpgkkgcaaGreatDoor
namespace Go.Proofs.YtgpdnmfpgkkgcaaGreatDoor
open Go Go.ChangeAt Go.ChangeShapes Go.RowKit Go.WideShapes
set_option linter.unusedSimpArgs false
set_option linter.unusedVariables false
section
def Wf:(T:Ty)→T.den→Prop|.int k,n=>(Lit.int k n).wf=true|.bool,_=>True|.str,s=>ByteArray.size s≤maxLen|.sl T,l=>List.length (α:=T.den) l≤maxLen∧∀x∈(l:List T.den),Wf T x|.pair a b,x=>Wf a x.1∧Wf b x.2|.unit,_=>True
def OR(P:Program)(F:TypeId→Ty→Prop):Nat→List Field→Ty→Prop|o,[f],T=>f.offset=o∧P.cellsOf f.type=T.size∧F f.type T|o,f::fs,.pair A B=>f.offset=o∧P.cellsOf f.type=A.size∧F f.type A∧OR P F (o+A.size) fs B|_,_,_=>False
def FitT(P:Program):Nat→TypeId→Ty→Prop|0,_,_=>False|n+1,t,T=>(match T with|.int k=>P.underlying t=some (.int k)|.bool=>P.underlying t=some .bool|.str=>P.underlying t=some .string|.sl T=>∃e,P.underlying t=some (.slice e)∧P.cellsOf e=T.size∧0<T.size∧FitT P n e T|_=>False)∨∃fs,P.underlying t=some (.struct fs)∧P.cellsOf t=T.size∧OR P (FitT P n) 0 fs.toList T
section
variable {H : Type} {enc : TypeId × Value → H} {P : Program} {W : World} {held : Bool}
abbrev Hl(W:World):Nat→Prop:=λb=>b<W.heap.size
theorem oX{α:Type}{p:Nat→α→Prop}:∀n:Nat,(∀i,i<n→∃y,p i y)→∃l:List α,l.length=n∧∀i y,l[i]?=some y→p i y
 |0,_=>⟨[],rfl,λi y h=>by simp at h⟩|n+1,h=>by
  obtain⟨l,hl,hp⟩:=oX n λi hi=>h i (by omega);obtain⟨y,hy⟩:=h n (by omega);refine⟨l++[y],by simp[hl],λi z hz=>?_⟩;by_cases e:i<l.length;·rw[ZHK e]at hz;exact hp i z hz
  ·rw[ZG5 (by omega)]at hz;have :i=l.length:=by have :=(List.getElem?_eq_some_iff.1 hz).1;simp at this;omega
   subst this;simp at hz;subst hz;rw[hl];exact hy
theorem qM{F:TypeId→Ty→Prop}{m:Nat}(hF:∀t T,F t T→∀cs x,DataW.trod enc P W 0 (λ_=>true) held m t cs=some x→∃y:T.den,BZ W (Hl W) T y cs∧Wf T y):∀{fs:List Field}{o:Nat}{T:Ty}{cs:List Value},OR P F o fs T→(∀f∈fs,∃x,DataW.trod enc P W 0 (λ_=>true) held m f.type ((cs.drop f.offset).take (P.cellsOf f.type))=some x)→cs.length=o+T.size→∃y:T.den,BZ W (Hl W) T y (cs.drop o)∧Wf T y
 |[],o,T,cs,h,_,_=>by unfold OR at h;exact h.elim|[f],o,T,cs,h,hx,hl=>by
  have h':f.offset=o∧P.cellsOf f.type=T.size∧F f.type T:=by unfold OR at h;exact h
  obtain⟨h1,h2,h3⟩:=h';obtain⟨x,hx⟩:=hx f (by simp);rw[h1,h2,ZHt (by rw[ZG1];omega)]at hx;exact hF _ _ h3 _ _ hx|f::g::fs,o,T,cs,h,hx,hl=>by
  cases T<;>unfold OR at h<;>try exact h.elim
  rename_i A B;obtain⟨h1,h2,h3,h4⟩:=h;have hl':cs.length=o+A.size+B.size:=by rw[hl];simp only[Ty.size];omega
  obtain⟨b,hb,hwb⟩:=qM hF (cs:=cs) h4 (λf hf=>hx f (by simp[List.mem_cons.1 hf])) hl';obtain⟨x,hx⟩:=hx f (by simp);rw[h1,h2]at hx;obtain⟨a,ha,hwa⟩:=hF _ _ h3 _ _ hx;refine⟨(a,b),⟨_,_,?_,ha,hb⟩,hwa,hwb⟩;rw[←ZKZ,ZHv]
theorem eQ{base:Nat}{a:Addr}{n:Nat}{cs:List Value}(h:W.cells? base a n=some cs)(hn:0<n):a.spot=none∧a.block<W.heap.size∧cs.length=n∧∀j u,cs[j]?=some u→W.cell? ⟨a.block,a.off+j,none⟩=some u:=by
 obtain⟨_,hl,hc⟩:=World.cells?_some h;have h0:=hc 0 hn;rw[ZGU (by omega:0<cs.length)]at h0;simp only[Addr.add,ZHa,World.cell?]at h0;have hs:a.spot=none∧a.block<W.heap.size:=by
  split at h0
  ·rename_i hb;refine⟨?_,(Array.getElem?_eq_some_iff.1 hb).1⟩;split at h0;·cases h0
   ·rename_i hs;simpa using hs
  ·cases h0
 refine⟨hs.1,hs.2,hl,λj u hj=>?_⟩;have IJ:j<n:=by rw[←hl];exact(List.getElem?_eq_some_iff.1 hj).1
 rw[←hj,←hc j IJ];obtain⟨b,off,sp⟩:=a;simp only at hs;rw[hs.1];unfold Addr.add;split;·rename_i e;subst e;rfl
 ·rfl
theorem U3:∀(n:Nat){t:TypeId}{T:Ty},FitT P n t T→∀(fuel:Nat)(cs:List Value)(x:DataW H×List MemPlace),DataW.trod enc P W 0 (λ_=>true) held fuel t cs=some x→∃y:T.den,BZ W (Hl W) T y cs∧Wf T y
  |0,_,_,h,_,_,_,_=>h.elim|n+1,t,T,h,fuel,cs,x,hx=>by
    unfold FitT at h;rcases h with h|⟨fs,h1,h2,h3⟩;·cases T with
      |int k=>obtain⟨z,rfl,_,hw⟩:=DataW.trod_int h hx;exact⟨z,rfl,hw⟩|bool=>obtain⟨z,rfl,_⟩:=DataW.trod_bool h hx;exact⟨z,rfl,trivial⟩|str=>obtain⟨z,rfl,_,hw⟩:=DataW.trod_string h hx;exact⟨z,rfl,hw⟩|sl T=>
        obtain⟨e,h1,h2,h3,h4⟩:=h;rcases DataW.trod_slice h1 hx with⟨rfl,_⟩|⟨a,len,cap,elems,rest,m,_,rfl,_,_,hl,hm,hlen,YC,_,_⟩;·exact⟨[],⟨none,0,rfl,⟨ZGR _,ZHu _⟩,λh=>absurd rfl h⟩,ZHu _,λx hx=>by cases hx⟩
        · have each:∀i,i<len→∃y:T.den,(a.block<W.heap.size∧(len≠0→a.spot=none)∧∃cs',BZ W (Hl W) T y cs'∧∀j u,cs'[j]?=some u→W.cell? ⟨a.block,a.off+i*T.size+j,none⟩=some u)∧Wf T y:=by
            intro i hi;have h5:=YC i hi;rw[ZGU (by omega:i<elems.length),ZGs]at h5;obtain⟨cs',h6,h7⟩:=h5;rw[h2]at h6;obtain⟨y,hy,hw⟩:=U3 n h4 _ _ _ h7;obtain⟨k1,k2,k3,k4⟩:=eQ h6 h3;have hb:(a.add (i*T.size)).block=a.block:=by unfold Addr.add;split<;>rfl
            have ho:(a.add (i*T.size)).off=a.off+i*T.size:=by
              unfold Addr.add;split;·rename_i e;rw[e];rfl
              ·rfl
            rw[hb,ho]at k4;rw[hb]at k2;refine⟨y,⟨k2,λ_=>?_,cs',hy,k4⟩,hw⟩;have kB:=YC 0 (by omega);rw[ZGU (by omega:0<elems.length),ZGs]at kB;obtain⟨cs0,kC,_⟩:=kB;rw[h2]at kC;have :=(eQ kC h3).1;simpa[Addr.add]using this
          obtain⟨l,Gq,lW⟩:=oX len each;refine⟨l,⟨some a,cap,by rw[Gq],⟨by rw[Gq];exact hl,hm⟩,λhne=>?_⟩,by show l.length≤maxLen;omega,λy hy=>?_⟩
          · have AU:0<len:=by rw[←Gq];exact List.length_pos_iff.2 hne
            obtain⟨y0,⟨hb,hs,_⟩,_⟩:=each 0 AU;refine⟨a.block,a.off,?_,hb,λi x hi=>?_⟩;·have :=hs (by omega);obtain⟨b,off,sp⟩:=a;simp only at this;rw[this]
            ·obtain⟨⟨_,_,cs',h8,h9⟩,_⟩:=lW i x hi;exact⟨cs',h8,h9⟩
          ·obtain⟨i,hi⟩:=ZIn hy;exact(lW i y hi).2|pair a b=>exact h.elim|unit=>exact h.elim
    ·obtain⟨xs,m,rfl,_,h4,h5,h6⟩:=DataW.trod_struct h1 hx;have :=qM (m:=m) (λt T hF cs x hx=>U3 n hF m cs x hx) (cs:=cs) h3 (λf hf=>by
        obtain⟨i,hi⟩:=ZIn hf;have hi':fs[i]?=some f:=by simpa using hi
        have :=h6 i f hi';have Ab:i<xs.length:=by rw[h5];exact(Array.getElem?_eq_some_iff.1 hi').1
        exact⟨xs[i],by rw[this,ZGU Ab]⟩) (by rw[ZGu,h4,h2]);simpa using this
def ZCG:Ty→Bool|.pair _ _=>false|_=>true
def Ip(W:World):AF:=⟨W,Hl W,λ_=>none⟩
theorem one_slice{r:Reach}{base:Nat}{t e:TypeId}{v:Value}(ht:P.underlying t=some (.slice e))(h:Value.okWide P W r base t v):v.cells=#[v]:=by obtain⟨a,l,c,rfl⟩:=okWide_slice ht h;rfl
theorem one_int{r:Reach}{base:Nat}{t:TypeId}{k:IntKind}{v:Value}(ht:P.underlying t=some (.int k))(h:Value.okWide P W r base t v):v.cells=#[v]:=by obtain⟨a,rfl⟩:=okWide_int ht h;rfl
theorem arg_plain{n:Nat}{t:TypeId}{T:Ty}{v:Value}{d:DataW H}{p:List MemPlace}(hf:FitT P n t T)(hp:ZCG T=true)(h:DataW.Trod enc P W 0 (λ_=>true) held t v d p)(hv:v.cells=#[v]):∃y:T.den,AC P (Ip W) (Ij T y) v∧Wf T y:=by obtain⟨fuel,h⟩:=h;rw[hv]at h;obtain⟨y,hy,hw⟩:=U3 n hf _ _ _ h;refine⟨y,?_,hw⟩;cases T<;>first|exact .d hy|(cases hp;done)
theorem arg_agg{n:Nat}{t:TypeId}{a b:Ty}{v:Value}{d:DataW H}{p:List MemPlace}(hf:FitT P n t (.pair a b))(h:DataW.Trod enc P W 0 (λ_=>true) held t v d p){fs:Array Field}{r:Reach}{base:Nat}(ht:P.underlying t=some (.struct fs))(hk:Value.okWide P W r base t v):∃y:(Ty.pair a b).den,AC P (Ip W) (Ij (.pair a b) y) v∧Wf (.pair a b) y:=by
 obtain⟨cs,rfl,_⟩:=okWide_struct ht hk;obtain⟨fuel,h⟩:=h;obtain⟨y,hy,hw⟩:=U3 n hf _ _ _ h;have hr:=MC (P:=P) (E:=Ip W) hy;refine⟨y,.agg ?_ λj hj=>?_,hw⟩;·have :=hr.1;simpa[Value.cells]using this
 ·have :=hr.2 j hj;simpa[Value.cells,ZGV,ZGG]using this
theorem sok_of{g:Nat}(hg:P.globalNamed "internal/strconv.uint64pow10"=some g)(h:Lib.TabIs P W "internal/strconv.uint64pow10" .u64 Lib.pow10Tab):FN P W (Hl W):=by
 refine⟨λb hb=>hb,g,?_,λw' hw'=>?_⟩
 ·unfold Lib.TabIs World.var? at h;rw[hg]at h;simp only[ZHc]at h;split at h;·rename_i hb;exact(Array.getElem?_eq_some_iff.1 hb).1
  ·cases h
 ·unfold Lib.TabIs World.var? at h⊢;rw[hg]at h⊢;simp only[ZHc]at h⊢;rw[hw'];exact h
theorem Lk{τ:Ap}(hτ:BQ P τ){run:EP}(hrun:Cy P run){A:An}{f:FuncId}{fi:FI}(hok:fi.Ok P f){ps:List PS}{xs:Cz ps}{C:Prop}(hw:C=Hq τ run A fi ps [.bool] xs λr=>r=true)(h:C)(hS:FN P W (Hl W)){args:Array Value}(hr:AZ P (Ip W) (DR ps xs) args.toList):Calls P f args W λe w'=>e=.returned (.bool true)∧Below W.heap.size W w':=by subst hw;refine(jB hτ hrun hok h hS hr).mono ?_;rintro e w'⟨v,S2,r,rfl,hg,hv,rfl⟩;have hv':AC P ⟨w',S2,λ_=>none⟩ (.d .bool true) v:=hv;refine⟨?_,hg.os,hg.tape,hg.output,hg.size,λk hk=>hg.frame k hk⟩;cases hv' with|d h=>rw[(ZIk (show[v]=[Value.bool true]from h)).1]
end
end
end Go.Proofs.YtgpdnmfpgkkgcaaGreatDoor
