/- Part of a proof that a law of the program holds for every input: what the functions answer, in plain Lean. No conditions. -/
import Derived.Test.YtldikbpclaeajaaGreatDoorP10
namespace Go.Proofs.YtldikbpclaeajaaGreatDoor
open Go
set_option linter.defProp false
def ZAc:=@Bool.eq_iff_iff
def ZBN:=@List.any_eq_true
def ZBO:=@List.flatten_nil
def ZBP:=@List.getElem_set_self
def ZBX:=@List.getElem_set_ne
def ZBm:=@Bool.or_self
def ZBt:=@Bool.and_true
def ZBx:=@List.all_append
def ZB4:=@List.any_eq_false
def ZCC:=@List.all_cons
def ZCS:=@Nat.mul_le_mul
def ZCj:=@List.all_nil
def ZCm:=@List.of_mem_zip
def ZCw:=@or_congr
def ZDS:=@Int.natAbs_mul
def ZDZ:=@Int.natAbs_of_nonneg
def ZDd:=@or_assoc
def ZDk:=@Int.tdiv_neg
set_option linter.unusedSimpArgs false
set_option linter.unusedVariables false
theorem H7{α τ:Type}{f:τ→α→Option τ}{l:List α}{d:α}{i:Nat}{a t:τ}(h:(l.take i).foldlM f a=some t)(hi:i<l.length):(l.take (i+1)).foldlM f a=f t (l.getD i d):=by rw[BN d hi,ZAz,h];show(f _ _).bind _=_;cases f t (l.getD i d)<;>rfl
theorem KN{α τ:Type}{f:τ→α→Option τ}{l:List α}{d:α}{i:Nat}{a t:τ}(h:(l.take i).foldlM f a=some t)(hi:i<l.length)(hn:f t (l.getD i d)=none):l.foldlM f a=none:=by rw[←ZAx (i+1) l,ZAz,H7 (d:=d) h hi,hn];rfl
def EX(out:List (List O))(m:ByteArray→Option Bool):Prop:=∀q,m (B6 (Cz q))=if q∈out then some true else none
theorem EX.nil:EX [] λ_=>none:=λq=>by simp
theorem EX.put{out:List (List O)}{m:ByteArray→Option Bool}(h:EX out m)(p:List O):EX (out++[p]) (CA m (B6 (Cz p)) true):=by
 intro q;simp only[CA,rW,zM,zC];by_cases e:q=p;·rw[yS e,yS (.inr e)]
 ·rw[yP e,h q];by_cases e2:q∈out;·rw[yS e2,yS (.inl e2)]
  ·rw[yP e2,yP λh=>h.elim e2 e]
theorem Mi{p:List O}{out:List (List O)}{m:ByteArray→Option Bool}{EA K1 EB K2:Prop}(hp:A2 p)(hk:EX out m)(hl:out.length≤400)(hA:(Aa p).2.2=3→BB out p=none→EA)(h1:BB out p=some out→K1)(hB:BB out p=none→EB)(h2:BB out p=some (out++[(Aa p).1])→K2):AE.pre (p,())∧cond (((AE.fn (p,())).2).2 !=(0:Int)) EA (((!((AE.fn (p,())).2).1)=true→(!((AE.fn (p,())).2).1)=true∧BT.pre ((AE.fn (p,())).1,()))∧((!((AE.fn (p,())).2).1)=true→(!((AE.fn (p,())).2).1)=true∧(!((AE.fn (p,())).2).1)=true∧True)∧(((AE.fn (p,())).2).1=false→(!((AE.fn (p,())).2).1)=true)∧cond (((AE.fn (p,())).2).1||Option.getD (m (BT.fn ((AE.fn (p,())).1,()))) false) K1 (BT.pre ((AE.fn (p,())).1,())∧((List.length out+List.length [(AE.fn (p,())).1])*24≤140737488355328∧List.length out+List.length [(AE.fn (p,())).1]≤9223372036854775807)∧cond (decide ((400:Int)<(( List.length (out++[(AE.fn (p,())).1]):Nat):Int))) EB K2)):=by
 have hn:BT.pre ((Aa p).1,()):=(dI hp).name;refine⟨hp,?_⟩;simp only[AE.fn,BT.fn];by_cases he:(Aa p).2.2=0
 ·simp only[he,zJ,yN];have hs:BB out p=if(Aa p).2.1=true∨(Aa p).1∈out then some out else if 400<out.length+1 then none else some (out++[(Aa p).1]):=by unfold BB;exact yP λh=>h he
  refine⟨λh=>⟨h,hn⟩,λh=>⟨h,h,trivial⟩,λh=>by rw[h];rfl,?_⟩;have hb:((Aa p).2.1||(m (B6 (Cz (Aa p).1))).getD false)=decide ((Aa p).2.1=true∨(Aa p).1∈out):=by
   rw[hk];by_cases e:(Aa p).1∈out;·rw[yS e];simp[e]
   ·rw[yP e];simp[e]
  rw[hb];by_cases e:(Aa p).2.1=true∨(Aa p).1∈out;·rw[yO e];exact h1 (hs.trans (yS e))
  ·rw[yV e];rw[yP e]at hs;refine⟨hn,⟨by simp;omega,by simp;omega⟩,?_⟩;by_cases e2:400<out.length+1;·rw[yO (show(400:Int)<((out++[(Aa p).1]).length:Int)by simp;omega)];exact hB (hs.trans (yS e2))
   ·rw[yV (show¬(400:Int)<((out++[(Aa p).1]).length:Int)by simp;omega)];exact h2 (hs.trans (yP e2))
 ·rw[bne_iff_ne.2 he];exact hA ((RA p).resolve_left he).1 (yS he)
theorem dE{out out':List (List O)}{p:List O}(h:BB out p=some out')(hl:out.length≤400):out'.length≤400:=by
 unfold BB at h;split at h;·cases h
 ·split at h;·cases h;exact hl
  ·split at h;·cases h
   ·cases h;simp;omega
theorem dD:∀{l:List (List O)}{out out':List (List O)},l.foldlM BB out=some out'→out.length≤400→out'.length≤400|[],out,out',h,hl=>by cases h;exact hl|p::l,out,out',h,hl=>by simp only[zQ,ZAE,ZAB]at h;obtain⟨s,h1,h2⟩:=h;exact dD h2 (dE h1 hl)
theorem Lp.tid{body:Int×List (List O)×(ByteArray→Option Bool)→(Int×List (List O)×(ByteArray→Option Bool)→Prop)→Prop}(l a:List (List O))(m0:ByteArray→Option Bool)(ha:EX a m0)(hal:a.length≤400)(hl:l.length≤1048576*4)(h:∀(i:Nat)out m R,i<l.length→(i:Int)<(l.length:Int)→AB .i64 ((i:Int)+1)→EX out m→out.length≤400→(BB out (l.getD i [])=some out→R ((i:Int)+1,out,m))→(BB out (l.getD i [])=some (out++[(Aa (l.getD i [])).1])→R ((i:Int)+1,out++[(Aa (l.getD i [])).1],CA m (B6 (Cz (Aa (l.getD i [])).1)) true))→(BB out (l.getD i [])=none→l.foldlM BB a=none)→body ((i:Int),out,m) R)(h2:∀out m R,l.foldlM BB a=some out→EX out m→out.length≤400→body ((l.length:Int),out,m) R):Lp body (0,a,m0):=by
 refine Lp.iter l.length (λi y=>y.1=(i:Int)∧(l.take i).foldlM BB a=some y.2.1∧EX y.2.1 y.2.2) ⟨rfl,rfl,ha⟩ ?_;rintro i⟨y,out,m⟩hle⟨hy,ht,hm⟩R hR;simp only at hy ht hm;subst hy;have hlen:=dD ht hal;by_cases e:i<l.length
 ·refine h i out m R e (by omega) ⟨by omega,by omega⟩ hm hlen (λhs=>hR e _ ⟨rfl,?_,hm⟩) (λhs=>hR e _ ⟨rfl,?_,hm.put _⟩) λhn=>KN ht e hn;·rw[H7 (d:=[]) ht e,hs]
  ·rw[H7 (d:=[]) ht e,hs]
 ·have :i=l.length:=by omega
  subst this;rw[zA]at ht;exact h2 out m R ht hm hlen
theorem AD.b{s:AG}(h:AD s=true):0≤s.1∧s.1≤12∧s.2.length≤400∧∀p∈s.2,p.length≤96∧∀c∈p,AJ c=true∧(c.2.2.1.length:Int)=s.1:=by simp only[AD,zN,ZAp,ZAP,DN,ZB0]at h;obtain⟨⟨⟨h1,h2⟩,h3⟩,h4⟩:=h;refine⟨h1,h2,by omega,λp hp=>?_⟩;obtain⟨h5,h6⟩:=h4 p hp;exact⟨by omega,h6⟩
theorem AD.piece{s:AG}(h:AD s=true){p:List O}(hp:p∈s.2):p.length≤96∧∀c∈p,AJ c=true:=by obtain⟨h1,h2⟩:=(AD.b h).2.2.2 p hp;exact⟨h1,λc hc=>(h2 c hc).1⟩
theorem AD.B{s:AG}(h:AD s=true){p:List O}(hp:p∈s.2):A2 p:=by obtain⟨h1,h2⟩:=AD.piece h hp;exact⟨by omega,λc hc=>AJ.condB (h2 c hc)⟩
theorem Ap.spec(x:AG):Ap.wp x λr=>r=Ap.fn (x,()):=by have hfn:Ap.fn (x,())=A1 x:=rfl;simp only[Ap.wp,Bf.fn,hfn];cases hv:AD x with|false=>simp[A1,hv]|true=>
 have hn:A1 x=CW x.1 (x.2.foldlM BB []):=by simp[A1,hv,B7]
 simp only[zU,yN,hn];refine Lp.tid x.2 [] _ EX.nil (by simp) (by have :=(AD.b hv).2.2.1;omega) ?_ ?_
 ·intro i out m R e e2 hf hk hl h1 h2 h3;simp only[yO e2,yQ,yR];refine⟨⟨by omega,by omega⟩,Mi (AD.B hv (AX e)) hk hl (λh4 hn=>?_) (λhs=>⟨hf,h1 hs⟩) (λhn=>?_) λhs=>⟨hf,h2 hs⟩⟩;·simp only[AE.fn,h4,show((3:Int)!=0)=true from rfl,yR];rw[h3 hn];rfl
  ·rw[h3 hn];rfl
 ·intro out m R ht hk hl;simp only[yY,yZ,yN];rw[ht];rfl
theorem Mv{x y:AG}(h:Dn x y=0):AD x=true∧AD y=true∧x.1=y.1:=by
 unfold Dn at h;split at h
 ·rename_i hv;split at h;·rename_i he;simp only[zN]at hv;exact⟨hv.1,hv.2,he⟩
  ·cases h
 ·cases h
theorem EU.spec(x y:AG):EU.wp x y λr=>r=EU.fn (x,y,()):=by
 have hfn:EU.fn (x,y,())=Er x y:=rfl;simp only[EU.wp,EF.fn,hfn,Dl.fn];by_cases he:Dn x y=0
 ·obtain⟨hx,hy,_⟩:=Mv he;have h1:=(AD.b hx).2.2.1;have h2:=(AD.b hy).2.2.1;have hn:Er x y=CW x.1 ((x.2++y.2).foldlM BB []):=by simp[Er,he,B7]
  simp only[he,zJ,yN,hn,ZAm,ZBO,ZAT];have A9:∀p∈x.2++y.2,A2 p:=λp hp=>(List.mem_append.1 hp).elim (AD.B hx) (AD.B hy);have hlen:(x.2++y.2).length≤800:=by simp;omega
  have hpre:Dl.pre ([x.2,y.2],()):=by refine⟨by simp,?_⟩;simp only[ZAm,ZBO,ZAT];omega
  refine⟨hpre,?_⟩;generalize x.2++y.2=l at*;refine Lp.tid l [] _ EX.nil (by simp) (by omega) ?_ ?_
  ·intro i out m R e e2 hf hk hl h1 h2 h3;simp only[yO e2,yQ,yR];refine⟨⟨by omega,by omega⟩,Mi (A9 _ (AX e)) hk hl (λh4 hn=>?_) (λhs=>⟨hf,h1 hs⟩) (λhn=>?_) λhs=>⟨hf,h2 hs⟩⟩;·simp only[AE.fn,h4,show((3:Int)!=0)=true from rfl,yR];rw[h3 hn];rfl
   ·rw[h3 hn];rfl
  ·intro out m R ht hk hl;simp only[yY,yZ,yN];rw[ht];rfl
 ·rw[bne_iff_ne.2 he];simp[Er,he]
theorem vM{l:List (List O)}{f:List O→List (List O)}:∀{a:List (List O)},(l.flatMap f).foldlM BB a=l.foldlM (λout p=>(f p).foldlM BB out) a:=by induction l with|nil=>intro a;rfl|cons p l ih=>intro a;rw[List.flatMap_cons,ZAz,zQ];congr 1;funext s;exact ih
theorem ER.spec(x y:AG):ER.wp x y λr=>r=ER.fn (x,y,()):=by
 have hfn:ER.fn (x,y,())=Ef x y:=rfl;simp only[ER.wp,EF.fn,hfn,CE.fn];by_cases he:Dn x y=0
 ·obtain⟨hx,hy,_⟩:=Mv he;have GR:=(AD.b hx).2.2.1;have yD:=(AD.b hy).2.2.1;have hn:Ef x y=CW x.1 (x.2.foldlM (λout p=>(y.2.map λq=>p++q).foldlM BB out) []):=by simp only[Ef,he,B7,EO];rw[←vM];simp
  simp only[he,zJ,yN,hn,ZAm,ZBO,ZAT];refine Lp.iter x.2.length (λi z=>z.1=(i:Int)∧(x.2.take i).foldlM (λout p=>(y.2.map λq=>p++q).foldlM BB out) []=some z.2.1∧EX z.2.1 z.2.2∧z.2.1.length≤400) ⟨rfl,rfl,EX.nil,by simp⟩ ?_;rintro i⟨z,o,mo⟩hle⟨hz,ht,hm,Du⟩R hR;simp only at hz ht hm Du;subst hz;by_cases e:i<x.2.length
  ·simp only[yO (show(i:Int)<(x.2.length:Int)by omega),yQ,yR];refine⟨⟨by omega,by omega⟩,?_⟩;have Y7:=AD.piece hx (AX (d:=[]) e);have hsn:=H7 (d:=[]) ht e;have IL:=KN (d:=[]) ht e;have FQ:(y.2.map λq=>x.2.getD i []++q).length=y.2.length:=by simp
   have A4:∀j,j<y.2.length→(y.2.map λq=>x.2.getD i []++q).getD j []=x.2.getD i []++y.2.getD j []:=λj hj=>by rw[A7 (by simpa using hj),A7 hj];simp
   have hB:∀j,j<y.2.length→A2 (x.2.getD i []++y.2.getD j []):=λj hj=>by have Y8:=AD.piece hy (AX (d:=[]) hj);refine⟨by simp only[yU];omega,λc hc=>?_⟩;exact(List.mem_append.1 hc).elim (λh=>AJ.condB (Y7.2 c h)) λh=>AJ.condB (Y8.2 c h)
   generalize hL:(y.2.map λq=>x.2.getD i []++q)=l at*;refine Lp.tid l o mo hm Du (by omega) ?_ ?_
   ·intro j out m R' e3 e4 hf hk hl h1 h2 h3;rw[FQ]at e3 e4;rw[A4 j e3]at h1 h2 h3;simp only[yO e4,yQ,yR];have hb:=hB j e3;refine⟨⟨by omega,by omega⟩,⟨by simp,by simp only[ZAm,ZBO,ZAT];exact hb.1⟩,Mi hb hk hl (λh4 hn=>?_) (λhs=>⟨hf,h1 hs⟩) (λhn=>?_) λhs=>⟨hf,h2 hs⟩⟩;·simp only[AE.fn,h4,show((3:Int)!=0)=true from rfl,yR];rw[IL (h3 hn)];rfl
    ·rw[IL (h3 hn)];rfl
   ·intro out m R' GV hk hl;rw[FQ];simp only[yY,yZ,yN];exact⟨⟨by omega,by omega⟩,hR e _ ⟨rfl,hsn.trans GV,hk,hl⟩⟩
  ·have :i=x.2.length:=by omega
   subst this;simp only[yY,yZ,yN];rw[zA]at ht;rw[ht];rfl
 ·rw[bne_iff_ne.2 he];simp[Ef,he]
theorem rL{c:O}(h1:(Cb c).2.2=0)(h2:(Cb c).2.1=0):AJ (Cb c).1=true:=by
 unfold Cb at*;split at h1;·cases h1
 ·rename_i h;rw[yP h]at h2⊢;simp only at h2;cases hv:AJ (AV c).1 with|true=>rfl|false=>exact absurd ⟨h2,hv⟩ h
theorem wK{n:Nat}(h:n≤12):AJ (0,0,List.replicate n 0,0)=true:=by have :BI (List.replicate n 0,0)=true:=Zv (by simpa using h) λm hm=>by rw[(List.mem_replicate.1 hm).2];decide (by decide);simp[AJ,this]
theorem aN{n:Nat}(hn:n≤12):∀{l out out':List O},l.foldlM (E7 n) out=some out'→(∀d∈out,AJ d=true)→∀d∈out',AJ d=true
 |[],out,out',h,h1=>by cases h;exact h1|c::l,out,out',h,h1=>by
  simp only[zQ,ZAE,ZAB]at h;obtain⟨s,h2,h3⟩:=h;refine aN hn h3 ?_;have key:∀x,AJ x=true→∀d∈out++[x],AJ d=true:=λx hx d hd=>by
   rcases List.mem_append.1 hd with hd|hd;·exact h1 d hd
   ·simp only[zC]at hd;subst hd;exact hx
  unfold E7 at h2;split at h2;·cases h2
  ·rename_i he;split at h2;·cases h2;exact key _ (wK hn)
   ·split at h2;·cases h2;exact h1
    ·cases h2;exact key _ (rL (by omega) (by omega))
theorem Qa{c:O}(hv:AJ c=true):((B4 c).2=0∨(B4 c).2=3)∧(B4 c).1.length≤400∧∀d∈(B4 c).1,AJ d=true:=by
 unfold B4;rw[yP (by rw[hv];simp)];rcases Co ((Bh c).foldlM (E7 c.2.2.1.length) [])with h|⟨out,h⟩;·rw[h];simp
 ·rw[h];simp only;split;·simp
  ·rename_i h2;exact⟨.inl rfl,by simp only;omega,aN (BI.b (AJ.lin hv)).1 h (by simp)⟩
theorem iU{a b:List O}(hb:Bs b){out out':List (List O)}{i:Nat}(hi:i<b.length)(h:EY a b out i=some out'):out'.length≤out.length+400:=by
 have :=(Qa (hb.2 _ (AX (d:=U) hi))).2.1;unfold EY at h;split at h;·cases h
 ·cases h;simp only[yU,zL];omega
theorem PQ{a b:List O}(hb:Bs b):∀{l:List Nat}{out out':List (List O)},(∀i∈l,i<b.length)→l.foldlM (EY a b) out=some out'→out'.length≤out.length+400*l.length|[],out,out',_,h=>by cases h;simp|i::l,out,out',hl,h=>by simp only[zQ,ZAE,ZAB]at h;obtain⟨s,h1,h2⟩:=h;have :=iU hb (hl i (by simp)) h1;have :=PQ hb (λj hj=>hl j (by simp[hj])) h2;simp only[yX];omega
theorem XA{a b:List O}(ha:Bs a)(hb:Bs b):∀{l:List Nat}{out out':List (List O)},(∀i∈l,i<b.length)→l.foldlM (EY a b) out=some out'→(∀p∈out,A2 p)→∀p∈out',A2 p
 |[],out,out',_,h,h3=>by cases h;exact h3|i::l,out,out',hl,h,h3=>by
  simp only[zQ,ZAE,ZAB]at h;obtain⟨s,h1,h2⟩:=h;refine XA ha hb (λj hj=>hl j (by simp[hj])) h2 ?_;have hn:=(Qa (hb.2 _ (AX (d:=U) (hl i (by simp))))).2.2;unfold EY at h1;split at h1;·cases h1
  ·cases h1;intro p hp;rcases List.mem_append.1 hp with hp|hp;·exact h3 p hp
   ·obtain⟨o,ho,rfl⟩:=List.mem_map.1 hp;have h4:=ha.1;have h5:=hb.1;refine⟨by simp only[yU,zG,yX,zF];omega,λc hc=>AJ.condB ?_⟩;rcases List.mem_append.1 hc with hc|hc;·exact ha.2 c hc
    ·rcases List.mem_append.1 hc with hc|hc;·exact hb.2 c (zZ hc)
     ·simp only[zC]at hc;subst hc;exact hn _ ho
theorem M5{a b:List O}(ha:Bs a)(hb:Bs b):(Bn a b).1.length≤1048576*4∧∀p∈(Bn a b).1,A2 p:=by
 unfold Bn;split;·simp
 ·split;·exact⟨by simp,λp hp=>by simp only[zC]at hp;subst hp;exact ha.B⟩
  ·rcases Co ((List.range b.length).foldlM (EY a b) [])with h|⟨out,h⟩;·rw[h];simp
   ·rw[h];have h1:=PQ hb (λi hi=>List.mem_range.1 hi) h;have h2:=hb.1;simp only[zF,ZB5]at h1;exact⟨by simp only;omega,XA ha hb (λi hi=>List.mem_range.1 hi) h (by simp)⟩
theorem VC{n i:Nat}(h:i<n):(List.range n).getD i 0=i:=by rw[A7 (by simpa using h)];simp
theorem ED.spec(a b:List O)(hp:ED.pre (a,b,())):ED.wp a b λr=>r=ED.fn (a,b,()):=by
 obtain⟨ha,hb⟩:Bs a∧Bs b:=hp;have hal:=ha.1;have YW:=hb.1;have hfn:ED.fn (a,b,())=Bn a b:=rfl;have hab:A2 (a++b):=⟨by simp only[yU];omega,λc hc=>(List.mem_append.1 hc).elim (λh=>AJ.condB (ha.2 c h)) λh=>AJ.condB (hb.2 c h)⟩;simp only[ED.wp,hfn,CE.fn,AE.fn,ZAm,ZBO,ZAT];refine⟨⟨by simp,by simp only[ZAm,ZBO,ZAT];exact hab.1⟩,hab,?_⟩;by_cases h0:(Aa (a++b)).2.2=0
 ·simp only[h0,zJ,yN];by_cases h1:(Aa (a++b)).2.1=true;·simp only[h1,yR];simp[Bn,h0,h1]
  ·rw[ZA9]at h1;simp only[h1,yN];have DD:Bn a b=match(List.range b.length).foldlM (EY a b) []with|none=>([],3)|some out=>(out,0):=by unfold Bn;exact(yP λh=>h h0).trans (yP (by rw[h1];simp))
   have F3:(List.range b.length).length=b.length:=by simp
   refine Lp.foldO (List.range b.length) 0 (EY a b) [] (by omega) ?_ ?_
   ·intro i out R e e2 hf ht BA A8;rw[F3]at e e2;have Du:=PQ hb (λj hj=>by have :=zZ hj;simpa using this) ht;simp only[zF,zG,F3]at Du;simp only[VC e,EY]at BA A8;simp only[yO e2,yQ,yR,FK.fn];have Kb:=Qa (hb.2 _ (AX (d:=U) e));refine⟨⟨by omega,by omega⟩,?_⟩;by_cases hn:(B4 (b.getD i U)).2=0
    ·simp only[hn,zJ,yN];rw[yP λh=>h hn]at BA;have h4:=Kb.2.1;refine Lp.iter (B4 (b.getD i U)).1.length (λj y=>y=((j:Int),out++((B4 (b.getD i U)).1.take j).map λo=>a++(b.take i++[o]))) (by simp) ?_;rintro j y Gt rfl R' hR';by_cases e3:j<(B4 (b.getD i U)).1.length
     ·simp only[yO (show(j:Int)<((B4 (b.getD i U)).1.length:Int)by omega),yQ,yR];refine⟨⟨by omega,by omega⟩,⟨by omega,by omega⟩,⟨by simp,?_⟩,⟨?_,?_⟩,⟨by omega,by omega⟩,hR' e3 _ ?_⟩;·simp only[ZAm,ZBO,ZAT,yU,zG,yX,zF];omega
      ·simp only[yU,zL,zG,yX,zF];omega
      ·simp only[yU,zL,zG,yX,zF];omega
      ·rw[BN U e3,ZAa];exact zX (Prod.mk ((j:Int)+1)) (ZAO _ _ _)
     ·have :j=(B4 (b.getD i U)).1.length:=by omega
      subst this;simp only[yY,yZ,yN,zA];exact⟨hf,BA _ rfl⟩
    ·simp only[bne_iff_ne.2 hn,yR];rw[DD,A8 (yS hn),Kb.1.resolve_left hn]
   ·intro out R ht;rw[F3];simp only[yY,yZ,yN];rw[DD,ht]
 ·simp only[bne_iff_ne.2 h0,yR];rw[((RA _).resolve_left h0).1];simp[Bn,h0]
def PP(l:List (List O)):Prop:=l.length≤400∧∀p∈l,p.length≤96∧∀c∈p,AJ c=true
theorem PP.v{l:List (List O)}(h:PP l){p:List O}(hp:p∈l):Bs p:=⟨by have :=(h.2 p hp).1;omega,(h.2 p hp).2⟩
theorem PP.nil:PP []:=⟨by simp,by simp⟩
theorem vO{out out':List (List O)}{p:List O}(h:BB out p=some out')(hl:PP out)(hp:A2 p):PP out':=by
 refine⟨dE h hl.1,?_⟩;unfold BB at h;split at h;·cases h
 ·split at h;·cases h;exact hl.2
  ·split at h;·cases h
   ·cases h;intro q hq;rcases List.mem_append.1 hq with hq|hq;·exact hl.2 q hq
    ·simp only[zC]at hq;subst hq;exact⟨Vk p,dJ hp⟩
theorem Q9:∀{l:List (List O)}{out out':List (List O)},l.foldlM BB out=some out'→PP out→(∀p∈l,A2 p)→PP out'|[],out,out',h,hl,_=>by cases h;exact hl|p::l,out,out',h,hl,hb=>by simp only[zQ,ZAE,ZAB]at h;obtain⟨s,h1,h2⟩:=h;exact Q9 h2 (vO h1 hl (hb p (by simp))) λq hq=>hb q (by simp[hq])
abbrev Gm(b:List O)(out:List (List O))(a:List O):Option (List (List O)):=if(Bn a b).2≠0 then none else(Bn a b).1.foldlM BB out
theorem SE{b:List O}(hb:Bs b):∀{l out out':List (List O)},l.foldlM (Gm b) out=some out'→PP out→(∀p∈l,Bs p)→PP out'
 |[],out,out',h,hl,_=>by cases h;exact hl|p::l,out,out',h,hl,hv=>by
  simp only[zQ,ZAE,ZAB]at h;obtain⟨s,h1,h2⟩:=h;refine SE hb h2 ?_ λq hq=>hv q (by simp[hq]);unfold Gm at h1;split at h1;·cases h1
  ·exact Q9 h1 hl (M5 (hv p (by simp)) hb).2
theorem Z9{cur cur':List (List O)}{b:List O}(h:Gv cur b=some cur')(hb:Bs b)(hc:PP cur):PP cur':=SE hb h PP.nil λp hp=>hc.v hp
theorem Ug:∀{l:List (List O)}{cur cur':List (List O)},l.foldlM Gv cur=some cur'→PP cur→(∀p∈l,Bs p)→PP cur'|[],out,out',h,hl,_=>by cases h;exact hl|p::l,out,out',h,hl,hv=>by simp only[zQ,ZAE,ZAB]at h;obtain⟨s,h1,h2⟩:=h;exact Ug h2 (Z9 h1 (hv p (by simp)) hl) λq hq=>hv q (by simp[hq])
theorem OM{x:AG}(h:(A1 x).2=0):PP (A1 x).1.2∧(A1 x).1.1=x.1:=by
 unfold A1 at h⊢;split at h;·cases h
 ·rename_i hv;rw[yP hv];rw[Bool.not_eq_false]at hv;unfold CW at h⊢;rcases Co (B7 x.2)with ho|⟨out,ho⟩;·rw[ho]at h;cases h
  ·rw[ho];exact⟨Q9 ho PP.nil λp hp=>AD.B hv hp,rfl⟩
theorem C3.spec(x y:AG):C3.wp x y λr=>r=C3.fn (x,y,()):=by
 have hfn:C3.fn (x,y,())=BQ x y:=rfl;simp only[C3.wp,EF.fn,hfn,Ap.fn,ED.fn];by_cases he:Dn x y=0
 ·have hM:BQ x y=if(A1 x).2≠0∨(A1 y).2≠0 then((0,[]),3)else CW x.1 ((A1 y).1.2.foldlM Gv (A1 x).1.2):=by unfold BQ;exact yP λh=>h he
  simp only[he,zJ,yN];refine⟨λh=>⟨h,trivial⟩,λh=>by rw[h];rfl,?_⟩;by_cases hx:(A1 x).2=0
  ·by_cases hy:(A1 y).2=0
   ·simp only[hx,hy,zJ,ZBL,yN,ZDM,ZBj,or_self,ZAY]at hM⊢;obtain⟨pX,eX⟩:=OM hx;obtain⟨pY,eY⟩:=OM hy;simp only[eX];generalize(A1 x).1.2=X at*;generalize(A1 y).1.2=Y at*;have mF:=pY.1;refine Lp.iter Y.length (λi z=>∃cur,z=((i:Int),(0:Int),x.1,cur,(0:Int))∧(Y.take i).foldlM Gv X=some cur) ⟨X,rfl,rfl⟩ ?_;rintro i z hle⟨cur,rfl,ht⟩R hR;have pC:=Ug ht pX λp hp=>pY.v (zZ hp);by_cases e:i<Y.length
    ·simp only[yO (show(i:Int)<(Y.length:Int)by omega),yQ,yR];refine⟨⟨by omega,by omega⟩,?_⟩;have E5:=pY.v (AX (d:=[]) e);have hsn:=H7 (d:=[]) ht e;have IL:=KN (d:=[]) ht e;have hT:Y.foldlM Gv X=none→BQ x y=((0,[]),3):=λh=>by rw[hM,h];rfl
     have lT:=pC.1;refine Lp.iter cur.length (λj z=>z.1=(j:Int)∧(cur.take j).foldlM (Gm (Y.getD i [])) []=some z.2.1∧EX z.2.1 z.2.2) ⟨rfl,rfl,EX.nil⟩ ?_;rintro j⟨z,o,mo⟩Np⟨hz,GV,hm⟩R2 A8;simp only at hz GV hm;subst hz;have pO:=SE E5 GV PP.nil λp hp=>pC.v (zZ hp);by_cases e2:j<cur.length
     ·simp only[yO (show(j:Int)<(cur.length:Int)by omega),yQ,yR];have N4:=pC.v (AX (d:=[]) e2);have hsn2:=H7 (d:=[]) GV e2;have Kd:Gm (Y.getD i []) o (cur.getD j [])=none→BQ x y=((0,[]),3):=λh=>hT (IL (KN (d:=[]) GV e2 h));refine⟨⟨by omega,by omega⟩,⟨N4,E5⟩,?_⟩;by_cases hc:(Bn (cur.getD j []) (Y.getD i [])).2=0
      ·have nA:Gm (Y.getD i []) o (cur.getD j [])=(Bn (cur.getD j []) (Y.getD i [])).1.foldlM BB o:=yP λh=>h hc;rw[nA]at hsn2 Kd;simp only[hc,zJ,yN];obtain⟨hcl,TT⟩:=M5 N4 E5;refine Lp.tid (Bn (cur.getD j []) (Y.getD i [])).1 o mo hm pO.1 hcl ?_ ?_
       ·intro k out m R' e3 e4 hf hk hl h1 h2 h3;simp only[yO e4,yQ,yR];refine⟨⟨by omega,by omega⟩,Mi (TT _ (AX e3)) hk hl (λh4 hn=>?_) (λhs=>⟨hf,h1 hs⟩) (λhn=>?_) λhs=>⟨hf,h2 hs⟩⟩;·simp only[AE.fn,h4,show((3:Int)!=0)=true from rfl,ZBd,yR];exact⟨λh=>by simp at h,λh=>by simp at h,(Kd (h3 hn)).symm⟩
        ·exact⟨λh=>by simp at h,λh=>by simp at h,(Kd (h3 hn)).symm⟩
       ·intro out m R' Kl hk hl;simp only[yY,yZ,yN];exact⟨⟨by omega,by omega⟩,A8 e2 _ ⟨rfl,hsn2.trans Kl,hk⟩⟩
      ·simp only[bne_iff_ne.2 hc,yR,zJ,ZBD];exact⟨λh=>⟨rfl,trivial⟩,λ_=>rfl,(Kd (yS hc)).symm⟩
     ·have :j=cur.length:=by omega
      subst this;simp only[yY,yZ,yN,zJ,ZBm];rw[zA]at GV;exact⟨λh=>⟨rfl,trivial⟩,λ_=>rfl,⟨by omega,by omega⟩,hR e _ ⟨o,rfl,hsn.trans GV⟩⟩
    ·have :i=Y.length:=by omega
     subst this;simp only[yY,yZ,yN];rw[zA]at ht;rw[hM,ht];rfl
   ·simp only[bne_iff_ne.2 hy,ZBD,yR];rw[hM,yS (.inr hy)]
  ·simp only[bne_iff_ne.2 hx,ZBd,yR];rw[hM,yS (.inl hx)]
 ·rw[bne_iff_ne.2 he];simp[BQ,he]
theorem Gi.spec(c:O):Gi.wp c λr=>r=Gi.fn (c,()):=rfl
theorem Fp.spec(p:List O)(n:Int):Fp.wp p n λr=>r=Fp.fn (p,n,()):=by
 have hfn:Fp.fn (p,n,())=Ia p n:=rfl;simp only[Fp.wp,hfn,EE.fn,AE.fn,Ch.fn];refine⟨λh=>⟨h,trivial⟩,λh=>by rw[h];rfl,?_⟩;by_cases h1:n<0∨12<n
 ·have :(decide (n<0)||decide (12<n))=true:=by simpa using h1
  rw[this];simp[Ia,h1]
 ·have :(decide (n<0)||decide (12<n))=false:=by rw[ZAX]at h1;simp[h1]
  rw[this];have hs:Ia p n=if 384<p.length then([],false,3)else if p.any λc=>!AJ c then([],false,1)else if DN p n=false then([],false,2)else Aa p:=by unfold Ia;exact yP h1
  simp only[yN];by_cases h2:384<p.length;·rw[yO (show(384:Int)<(p.length:Int)by omega)];rw[hs,yS h2];rfl
  ·rw[yV (show¬(384:Int)<(p.length:Int)by omega)];rw[yP h2]at hs;refine⟨λ_ _=>trivial,?_⟩;cases h3:p.any λc=>!AJ c with|true=>rw[h3]at hs;exact hs.symm|false=>rw[h3]at hs;simp only[yN,zY,ZAY]at hs⊢;cases h4:DN p n with|false=>rw[h4]at hs;exact hs.symm|true=>rw[h4]at hs;simp only[zU,yN,ZBG,ZAY]at hs⊢;refine⟨⟨(by omega:p.length≤1048576),λc hc=>AJ.condB ?_⟩,hs.symm⟩;have :=List.any_eq_false.1 h3 c hc;simpa using this
theorem Eo.spec(l:List (List O))(f:(List O→Prop)×(List O→Bool))(hl:l.length≤9223372036854775807)(hp:Eo.pre (l,f,())):Eo.wp l f λr=>r=Eo.fn (l,f,()):=by
 refine Lp.iter l.length (λi y=>y=(i:Int)∧∀j,j<i→f.2 (l.getD j [])=false) ⟨rfl,λj hj=>absurd hj (by omega)⟩ ?_;rintro i y hle⟨rfl,hi⟩R hR;have hd:=ZO hi hle 0;have hfn:Eo.fn (l,f,())=FV f.2 l 0:=rfl;rw[hfn];by_cases e:i<l.length;·simp only[yO (show(i:Int)<(l.length:Int)by omega),yQ,yR];refine⟨⟨by omega,by omega⟩,hp _ (AX e),?_⟩;rw[ZAH e]at hd;cases h0:f.2 (l.getD i [])with|true=>rw[A7 e]at h0;simp only[FV,h0,ZA4]at hd;show(i:Int)=_;omega|false=>
  refine⟨⟨by omega,by omega⟩,hR e _ ⟨by omega,λj hj=>?_⟩⟩;by_cases ej:j=i;·subst ej;exact h0
  ·exact hi j (by omega)
 ·have :i=l.length:=by omega
  subst this;simp only[yY,yZ,yN];rw[ZA2]at hd;exact hd.symm
theorem FF.spec(l:List (List O))(f:(List O→Prop)×(List O→Bool))(hp:FF.pre (l,f,())):FF.wp l f λr=>r=FF.fn (l,f,()):=⟨hp,UI (ZAr 0)⟩
theorem SA{n:Int}:Bm n=true↔-4294967296≤n∧n≤4294967296:=by simp[Bm]
theorem QY{n m x y:Int}(hn:0≤n)(hm:0≤m)(h1:-n≤x)(h2:x≤n)(h3:-m≤y)(h4:y≤m):-(n*m)≤x*y∧x*y≤n*m:=by
 have h:(x*y).natAbs≤n.natAbs*m.natAbs:=by rw[ZDS];exact ZCS (by omega) (by omega)
 have e:n*m=((n.natAbs*m.natAbs:Nat):Int):=by rw[ZCg,ZDZ hn,ZDZ hm]
 rw[e];omega
def JG(s:Int)(p:Int×Int):Option Int:=if(Bw p.1&&Bm p.2)=true then some (s+p.1*p.2)else none
theorem PV:∀(a b:List Int)(s:Int),(a.zip b).foldlM JG s=if((a.zip b).all λp=>Bw p.1&&Bm p.2)=true then some (s+Az a b)else none
 |[],b,s=>by simp[Az]|x::a,[],s=>by simp[Az]|x::a,y::b,s=>by
  simp only[List.zip_cons_cons,zQ,ZCC,Az];by_cases h:(Bw x&&Bm y)=true;·have h2:JG s (x,y)=some (s+x*y):=yS h;rw[h2];show(a.zip b).foldlM JG (s+x*y)=_;simp only[PV a b,h,ZBu,Int.add_assoc]
  ·have h2:JG s (x,y)=none:=yP h;rw[h2];simp only[ZA9]at h;simp only[h,ZCQ,zY,ZAY];rfl
theorem PW:∀{l:List (Int×Int)}{s t:Int},l.foldlM JG s=some t→s-4503599627370496*l.length≤t∧t≤s+4503599627370496*l.length
 |[],s,t,h=>by cases h;simp|p::l,s,t,h=>by
  simp only[zQ,ZAE,ZAB]at h;obtain⟨u,h1,h2⟩:=h;have ih:=PW h2;unfold JG at h1;split at h1;·rename_i hp;cases h1;simp only[zN,Ld,SA]at hp;have :=QY (n:=1048576) (m:=4294967296) (by omega) (by omega) hp.1.1 hp.1.2 hp.2.1 hp.2.2;simp only[yX];omega
  ·cases h1
theorem W8(n:Int):(decide (n< -4294967296)||decide (4294967296<n))=!Bm n:=by
 unfold Bm;by_cases h3:n< -4294967296;·rw[yO h3,yV (show¬-4294967296≤n by omega)];rfl
 ·by_cases h4:4294967296<n;·rw[yO h4,yV (show¬n≤4294967296 by omega),ZB7,ZBD];rfl
  ·rw[yV h3,yV h4,yO (show-4294967296≤n by omega),yO (show n≤4294967296 by omega)];rfl
theorem wL{a b:List Int}{i:Nat}(h:i<a.length)(h2:i<b.length):(a.zip b).getD i (0,0)=(a.getD i 0,b.getD i 0):=by rw[A7 (by simp;omega),A7 h,A7 h2];simp
theorem Fa.spec(a b:List Int):Fa.wp a b λr=>r=Fa.fn (a,b,()):=by
 have hfn:Fa.fn (a,b,())=Eu a b:=rfl;simp only[Fa.wp,Bk.fn,hfn];by_cases h1:a.length=b.length
 ·have e1:(((a.length:Nat):Int)!=((b.length:Nat):Int))=false:=by simp[h1]
  rw[e1];by_cases h2:12<a.length;·rw[yO (show(12:Int)<(a.length:Int)by omega)];show _=Eu a b;unfold Eu;rw[yP λh=>h h1,yS h2]
  ·rw[yV (show¬(12:Int)<(a.length:Int)by omega)];have hd:Eu a b=if((a.zip b).all λp=>Bw p.1&&Bm p.2)=true then(Az a b,0)else(0,6):=by unfold Eu;rw[yP λh=>h h1,yP h2]
   have hm:=PV a b 0;have B3:(a.zip b).length=a.length:=by simp;omega
   refine Lp.foldO (a.zip b) (0,0) JG 0 (by omega) ?_ ?_
   ·intro i t R e e2 hf ht BA A8;have hb:=PW ht;rw[B3]at e e2;rw[wL e (by omega)]at BA A8;simp only[zG,B3]at hb;simp only[yO e2,yQ,yR];refine⟨⟨by omega,by omega⟩,λh=>⟨h,h,by omega,by omega⟩,λh=>⟨h,trivial⟩,λh=>⟨h,trivial⟩,λh=>by rw[h];rfl,λh=>⟨h,h,by omega,by omega⟩,λh=>⟨h,trivial⟩,λh=>⟨h,trivial⟩,λh=>by rw[h];rfl,?_⟩;have NX:( !Bw (a.getD i 0)||decide (b.getD i 0< -4294967296)||decide (4294967296<b.getD i 0))=!(Bw (a.getD i 0)&&Bm (b.getD i 0)):=by rw[Bool.or_assoc,W8,Bool.not_and]
    rw[NX];cases hok:Bw (a.getD i 0)&&Bm (b.getD i 0)with
    |false=>
     have h3:=A8 (yP (by simp only;rw[hok];simp));rw[hm]at h3;simp only[ZAu,yR];rw[hd];split at h3;·cases h3
     ·rename_i h4;rw[yP h4]|true=>simp only[zU,yN];have h3:=BA _ (yS hok);simp only[zN,Ld,SA]at hok;have h5:=QY (n:=1048576) (m:=4294967296) (by omega) (by omega) hok.1.1 hok.1.2 hok.2.1 hok.2.2;generalize a.getD i 0*b.getD i 0=v at*;exact⟨⟨by omega,by omega⟩,⟨by omega,by omega⟩,⟨by omega,by omega⟩,⟨by omega,by omega⟩,hf,h3⟩
   ·intro t R ht;rw[B3];simp only[yY,yZ,yN];rw[hm]at ht;rw[hd];split at ht;·rename_i h4;rw[yS h4];cases ht;simp
    ·cases ht
 ·rw[bne_iff_ne.2 (show((a.length:Nat):Int)≠((b.length:Nat):Int)by omega)];simp[Eu,h1]
theorem jF{a b:List Int}(h:(Eu a b).2=0):-54043195528445952≤(Eu a b).1∧(Eu a b).1≤54043195528445952:=by
 unfold Eu at h⊢;split at h;·cases h
 ·split at h;·cases h
  ·split at h;·rename_i h1 h2 h3;rw[yP h1,yP h2,yS h3];have hm:=PV a b 0;rw[yS h3]at hm;have :=PW hm;simp only[List.length_zip]at this;simp only;omega
   ·cases h
theorem FZ.spec(l:AT)(p:List Int):FZ.wp l p λr=>r=FZ.fn (l,p,()):=by have hfn:FZ.fn (l,p,())=Hb l p:=rfl;simp only[FZ.wp,hfn,DF.fn,Fa.fn];cases hv:BI l with|false=>simp[Hb,hv]|true=>
 by_cases h:(Eu l.1 p).2=0;·have :=jF h;have h2:=(BI.b hv).2.2;simp only[h,zJ,yN,zU];refine⟨⟨by omega,by omega⟩,?_⟩;simp[Hb,hv,h]
 ·simp only[bne_iff_ne.2 h,yR,zU,yN];simp[Hb,hv,h]
theorem Ft.spec(c:O)(p:List Int):Ft.wp c p λr=>r=Ft.fn (c,p,()):=by have hfn:Ft.fn (c,p,())=F1 c p:=rfl;simp only[Ft.wp,hfn,BW.fn,FZ.fn];cases hv:AJ c with|false=>simp[F1,hv]|true=>
 by_cases h:(Hb c.2.2 p).2=0
 ·simp only[h,zJ,yN,zU];have hk:=AJ.kind hv;by_cases k0:c.1=0;·simp[F1,hv,h,FH,k0]
  ·by_cases k1:c.1=1;·simp[F1,hv,h,FH,k1]
   ·simp only[beq_eq_false_iff_ne.2 k0,beq_eq_false_iff_ne.2 k1,yN];refine⟨by omega,?_⟩;simp[F1,hv,h,FH,k0,k1]
 ·simp only[bne_iff_ne.2 h,yR,zU,yN];simp[F1,hv,h]
theorem Gg.spec(c:O)(p:List Int):Gg.wp c p λr=>r=Gg.fn (c,p,()):=rfl
theorem Gf.spec(q:List O)(p:List Int):Gf.wp q p λr=>r=Gf.fn (q,p,()):=⟨λ_ _=>trivial,rfl⟩
theorem D9.spec(s:AG)(p:List Int)(hl:p.length≤9223372036854775807):D9.wp s p λr=>r=D9.fn (s,p,()):=by have hfn:D9.fn (s,p,())=EZ s p:=rfl;simp only[D9.wp,hfn,Bf.fn];cases hv:AD s with|false=>simp[EZ,hv]|true=>
 simp only[zU,yN];by_cases h1:((p.length:Nat):Int)=s.1
 ·simp only[h1,zJ,yN];rw[←h1];refine Lp.all p 0 Bm hl ?_ ?_;·intro i R e e2 hf h2 h3;simp only[yO e2,yQ,yR];refine⟨⟨by omega,by omega⟩,λh=>⟨h,trivial⟩,λh=>by rw[h];rfl,?_⟩;have hc:(decide (p.getD i 0< -4294967296)||decide (4294967296<p.getD i 0))=!Bm (p.getD i 0):=W8 _;rw[hc];cases hok:Bm (p.getD i 0)with|true=>exact⟨hf,h2 hok⟩|false=>have :=h3 hok;simp[EZ,hv,h1,this]
  ·intro R h2;simp only[yY,yZ,yN];refine⟨λ_ _=>trivial,?_⟩;simp[EZ,hv,h1,h2]
 ·simp only[bne_iff_ne.2 h1,yR];simp[EZ,hv,h1]
def Am(p:List O)(n:Nat):Prop:=∀c∈p,c.2.2.1.length=n
def sK(l:AT)(n k:Int):AT:=(l.1.map (·.tdiv n),k)
abbrev Cq.fn(x:AT×Int×Int×Unit):AT:=sK x.1 x.2.1 x.2.2.1
abbrev Cq.pre(x:AT×Int×Int×Unit):Prop:=x.2.1≠0∧x.1.1.length≤1048576∧DM x.1.1
abbrev BM.fn(x:O×Unit):O×Int:=AV x.1
abbrev BM.pre(x:O×Unit):Prop:=condB x.1
def By(a b:O):Int:=if a.2.2.1=b.2.2.1 then 1 else if a.2.2.1=Al b.2.2.1 then-1 else 0
abbrev Cf.fn(x:O×O×Unit):Int:=By x.1 x.2.1
abbrev Cf.pre(x:O×O×Unit):Prop:=x.1.2.2.1.length=x.2.1.2.2.1.length∧x.1.2.2.1.length≤1048576∧DM x.2.1.2.2.1
abbrev DO.fn(x:List Int×List Int×Unit):Int:=BL x.1 x.2.1
abbrev DO.pre(x:List Int×List Int×Unit):Prop:=x.1.length=x.2.1.length
abbrev FB.fn(x:Int×Unit):Int:=CB x.1
abbrev EP.fn(x:AT×AT×Unit):Int:=BL (x.1.1++[x.1.2]) (x.2.1.1++[x.2.1.2])
abbrev EP.pre(x:AT×AT×Unit):Prop:=x.1.1.length=x.2.1.1.length∧x.1.1.length≤1048576
abbrev D3.fn(x:O×O×Unit):Int:=C1 x.1 x.2.1
abbrev D3.pre(x:O×O×Unit):Prop:=x.1.2.2.1.length=x.2.1.2.2.1.length∧x.1.2.2.1.length≤1048576
abbrev D8.fn(x:List O×Unit):List O:=Au x.1
abbrev D8.pre(x:List O×Unit):Prop:=x.1.length≤2199023255552∧∃n,n≤1048576∧Am x.1 n
def OS(p:List O):Prop:=A2 p∧∃n,Am p n
abbrev Ce.fn(x:List O×Unit):List O×Bool×Int:=Aa x.1
abbrev Ce.pre(x:List O×Unit):Prop:=OS x.1
abbrev Fj.fn(x:List (List O)×List O×Unit):Bool:=decide (x.2.1∈x.1)
def Gd(out:List (List O))(p:List O):Option (List (List O)):=if(Aa p).2.2≠0 then none else if(Aa p).2.1=true∨(Aa p).1∈out then some out else some (out++[(Aa p).1])
def OT(l:List (List O)):List (List O)×Int:=match l.foldlM Gd []with|none=>([],3)|some out=>(out,0)
abbrev D6.fn(x:List (List O)×Unit):List (List O)×Int:=OT x.1
abbrev D6.pre(x:List (List O)×Unit):Prop:=x.1.length≤1099511627776∧∀p∈x.1,OS p
abbrev Bu.fn(x:Int×List (List O)×Unit):AG×Int:=CW x.1 (B7 x.2.1)
abbrev Bu.pre(x:Int×List (List O)×Unit):Prop:=x.2.1.length≤1099511627776∧∀p∈x.2.1,OS p
abbrev EQ.fn(x:AG×Unit):AG×Int:=A1 x.1
abbrev CK.fn(x:List O×List O×Unit):List O:=x.1++x.2.1
abbrev CK.pre(x:List O×List O×Unit):Prop:=x.1.length≤1048576∧x.2.1.length≤1048576
def OJ(a:Int)(l:AT)(b:Int)(m:AT):AT:=((List.range l.1.length).map λi=>a*l.1.getD i 0+b*m.1.getD i 0,a*l.2+b*m.2)
def cL(l:AT):Prop:=l.1.length≤1048576∧(∀n∈l.1,-4294967296≤n∧n≤4294967296)∧-4294967296≤l.2∧l.2≤4294967296
abbrev Cp.fn(x:Int×AT×Int×AT×Unit):AT:=OJ x.1 x.2.1 x.2.2.1 x.2.2.2.1
abbrev Cp.pre(x:Int×AT×Int×AT×Unit):Prop:=(-1048576≤x.1∧x.1≤1048576)∧cL x.2.1∧(-1048576≤x.2.2.1∧x.2.2.1≤1048576)∧cL x.2.2.2.1∧x.2.1.1.length=x.2.2.2.1.1.length
abbrev Fh.fn(x:O×Unit):List O×Int:=B4 x.1
abbrev Fl.fn(x:AG×AG×Unit):AG×Int:=BQ x.1 x.2.1
abbrev Fm.fn(x:List O×Int×Unit):List O×Bool×Int:=Ia x.1 x.2.1
abbrev Fo.fn(x:AG×AG×Unit):AG×Int:=Er x.1 x.2.1
abbrev Fk.fn(x:AG×AG×Unit):AG×Int:=Ef x.1 x.2.1
abbrev D1.fn(x:AT×List Int×Unit):Int:=x.1.2+Az x.1.1 x.2.1
def JC(c:O)(p:List Int):Prop:=AJ c=true∧c.2.2.1.length=p.length∧∀n∈p,Bm n=true
abbrev D1.pre(x:AT×List Int×Unit):Prop:=BI x.1=true∧x.1.1.length=x.2.1.length∧∀n∈x.2.1,Bm n=true
def Ao(c:O)(p:List Int):Bool:=FH c (c.2.2.2+Az c.2.2.1 p)
abbrev D4.fn(x:O×List Int×Unit):Bool:=Ao x.1 x.2.1
abbrev D4.pre(x:O×List Int×Unit):Prop:=JC x.1 x.2.1
abbrev DB.fn(x:List O×List Int×Unit):Bool:=x.1.all λc=>Ao c x.2.1
abbrev DB.pre(x:List O×List Int×Unit):Prop:=∀c∈x.1,JC c x.2.1
abbrev Ax.fn(x:AG×List Int×Unit):Bool:=x.1.2.any λp=>p.all λc=>Ao c x.2.1
abbrev Ax.pre(x:AG×List Int×Unit):Prop:=∀p∈x.1.2,∀c∈p,JC c x.2.1
abbrev Fe.fn(x:Int×Unit):Bool:=Bm x.1
abbrev Ff.fn(x:List Int×Unit):Bool:=x.1.all Bm
abbrev Fi.fn(x:AG×List Int×Unit):Bool×Int:=EZ x.1 x.2.1
def LZ(m:Int)(l:List AG):Bool:=l.all λs=>s.2.all λp=>decide ((p.length:Int)≤m)
def La(l:List AG):Int:=l.foldl (λn s=>IntKind.wrap .i64 (n+(s.2.length:Int))) 0
abbrev BK.fn(x:Int×Int×List AG×Unit):Bool:=LZ x.2.1 x.2.2.1&&decide (La x.2.2.1≤x.1)
abbrev Ak.fn(x:Unit):Bool:=true
set_option maxRecDepth 4000
def FC.wp(x0:Bool)(Q:O×Int→Prop):Prop:=cond x0 (Q (U,1)) (Q (U,-1))
def Cq.wp(x0:AT)(x1:Int)(x2:Int)(Q:AT→Prop):Prop:=(0≤(x0.1.length:Int)∧x0.1.length≤(x0.1.length:Int)∧x0.1.length*((8:Nat):Int)≤140737488355328∧(x0.1.length:Int)≤9223372036854775807)∧Lp (σ:=Int×List Int) (λy4 R4=>let v2:=x0.1.getD y4.1.toNat 0;cond (decide (y4.1<x0.1.length)) ((0≤y4.1∧y4.1<x0.1.length)∧(x1≠0∧AB .i64 (Int.tdiv v2 x1))∧(0≤y4.1∧y4.1<y4.2.length)∧Int.toNat y4.1<y4.2.length∧AB .i64 (y4.1+1)∧R4 ( y4.1+1,List.set y4.2 y4.1.toNat (Int.tdiv v2 x1))) (Q (y4.2,x2))) (0,.replicate (Int.toNat x0.1.length) 0)
def BM.wp(x0:O)(Q:O×Int→Prop):Prop:=let v0:=D0.fn (x0.2.2.1,());let v2:=Dz.fn (x0.2.2.2,(v0.1,()));let v5:=FC.fn (false,());let v7:=Int.tdiv x0.2.2.2 (-v0.1);let v9:=Cq.fn (x0.2.2,(v0.1,(Int.tdiv x0.2.2.2 v0.1,())));let v15:=List.length ([]:List Int);let v18:=DH.fn (x0.2.2.2,(x0.2.1,()));D0.pre (x0.2.2.1,())∧cond (x0.1==0) (cond (v0.1==0) (Q (FC.fn (decide (0≤x0.2.2.2),()))) (Dz.pre (x0.2.2.2,(v0.1,()))∧Cq.pre (x0.2.2,(v0.1,(v2.1,())))∧Q ((0,(0,Cq.fn (x0.2.2,(v0.1,(v2.1,()))))),0))) (cond (x0.1==1) (cond (v0.1==0) (Q (FC.fn ( x0.2.2.2==0,()))) (v0.1≠0∧cond (Int.tmod x0.2.2.2 v0.1 !=0) (Q v5) (Lp (σ:=Int) (λy2 R2=>let v6:=x0.2.2.1.getD y2.toNat 0;cond (decide (y2<x0.2.2.1.length)) ((0≤y2∧y2<x0.2.2.1.length)∧cond (v6 !=0) (cond (decide (v6<0)) (AB .i64 (-v0.1)∧(-v0.1≠0∧AB .i64 v7)∧Cq.pre (x0.2.2,(-v0.1,(v7,())))∧Q ((1,(0,Cq.fn (x0.2.2,(-v0.1,(v7,()))))),0)) ((v0.1≠0∧AB .i64 (Int.tdiv x0.2.2.2 v0.1))∧Cq.pre (x0.2.2,(v0.1,(Int.tdiv x0.2.2.2 v0.1,())))∧Q ((1,(0,v9)),0))) (AB .i64 (y2+1)∧R2 (y2+1))) ((v0.1≠0∧AB .i64 (Int.tdiv x0.2.2.2 v0.1))∧Cq.pre (x0.2.2,(v0.1,(Int.tdiv x0.2.2.2 v0.1,())))∧Q ((1,(0,v9)),0))) 0))) ((0≤(x0.2.2.1.length:Int)∧x0.2.2.1.length≤(x0.2.2.1.length:Int)∧x0.2.2.1.length*((8:Nat):Int)≤140737488355328∧(x0.2.2.1.length:Int)≤9223372036854775807)∧Lp (σ:=Int×List Int) (λy2 R2=>let v12:=x0.2.2.1.getD y2.1.toNat 0;let v16:=List.length (([]:List Int)++y2.2);let v17:=D0.fn (([]:List Int)++y2.2++[x0.2.1],());cond (decide (y2.1<x0.2.2.1.length)) ((0≤y2.1∧y2.1<x0.2.2.1.length)∧DH.pre (v12,(x0.2.1,()))∧(0≤y2.1∧y2.1<y2.2.length)∧Int.toNat y2.1<y2.2.length∧AB .i64 (y2.1+1)∧R2 ( y2.1+1,List.set y2.2 y2.1.toNat (DH.fn (v12,(x0.2.1,()))).1)) (DH.pre (x0.2.2.2,(x0.2.1,()))∧((v15+y2.2.length)*8≤140737488355328∧v15+y2.2.length≤9223372036854775807)∧((v16+List.length [x0.2.1])*8≤140737488355328∧v16+List.length [x0.2.1]≤9223372036854775807)∧D0.pre (([]:List Int)++y2.2++[x0.2.1],())∧v17.1≠0∧cond (Int.tmod v18.1 v17.1 !=0) (Q v5) (cond (x0.2.1==v17.1) (Q (FC.fn (true,()))) ((v17.1≠0∧AB .i64 (Int.tdiv x0.2.1 v17.1))∧(v17.1≠0∧AB .i64 (Int.tdiv v18.1 v17.1))∧Cq.pre ((y2.2,v18.1),(v17.1,(Int.tdiv v18.1 v17.1,())))∧Q ((2,(Int.tdiv x0.2.1 v17.1,Cq.fn ((y2.2,v18.1),(v17.1,(Int.tdiv v18.1 v17.1,()))))),0))))) (0,.replicate (Int.toNat x0.2.2.1.length) 0)))
def Cf.wp(x0:O)(x1:O)(Q:Int→Prop):Prop:=Lp (σ:=Int×Bool×Bool) (λy3 R3=>let v0:=x1.2.2.1.getD y3.1.toNat 0;let v1:=x0.2.2.1.getD y3.1.toNat 0;cond (decide (y3.1<x0.2.2.1.length)) ((y3.2.2=true→y3.2.2=true∧True)∧(y3.2.2=true→y3.2.2=true∧True)∧(y3.2.2=true→y3.2.2=true∧y3.2.2=true∧0≤y3.1∧y3.1<x0.2.2.1.length)∧(y3.2.2=true→y3.2.2=true∧True)∧(y3.2.2=true→y3.2.2=true∧True)∧(y3.2.2=true→y3.2.2=true∧True)∧(y3.2.2=true→y3.2.2=true∧y3.2.2=true∧0≤y3.1∧y3.1<x1.2.2.1.length)∧(y3.2.2=true→y3.2.2=true∧True)∧(y3.2.2=true→y3.2.2=true∧y3.2.2=true∧True)∧(y3.2.2=true→y3.2.2=true)∧(y3.2.1=true→y3.2.1=true∧True)∧(y3.2.1=true→y3.2.1=true∧True)∧(y3.2.1=true→y3.2.1=true∧y3.2.1=true∧0≤y3.1∧y3.1<x0.2.2.1.length)∧(y3.2.1=true→y3.2.1=true∧True)∧(y3.2.1=true→y3.2.1=true∧True)∧(y3.2.1=true→y3.2.1=true∧True)∧(y3.2.1=true→y3.2.1=true∧y3.2.1=true∧0≤y3.1∧y3.1<x1.2.2.1.length)∧(y3.2.1=true→y3.2.1=true∧True)∧(y3.2.1=true→y3.2.1=true∧AB .i64 (-v0))∧(y3.2.1=true→y3.2.1=true∧y3.2.1=true∧True)∧(y3.2.1=true→y3.2.1=true)∧AB .i64 (y3.1+1)∧R3 ( y3.1+1,( y3.2.1&&v1==-v0,y3.2.2&&v1==v0))) (cond y3.2.2 (Q 1) (cond y3.2.1 (Q (-1)) (Q 0)))) (0,(true,true))
def DO.wp(x0:List Int)(x1:List Int)(Q:Int→Prop):Prop:=Lp (σ:=Int) (λy3 R3=>let v0:=x0.getD y3.toNat 0;let v1:=x1.getD y3.toNat 0;cond (decide (y3<x0.length)) ((0≤y3∧y3<x0.length)∧(0≤y3∧y3<x1.length)∧cond (decide (v0<v1)) (Q (-1)) ((0≤y3∧y3<x0.length)∧(0≤y3∧y3<x1.length)∧cond (decide (v1<v0)) (Q 1) (AB .i64 (y3+1)∧R3 (y3+1)))) (Q 0)) 0
def FB.wp(x0:Int)(Q:Int→Prop):Prop:=cond (x0==1) (Q 0) (cond (x0==0) (Q 1) (Q 2))
def EP.wp(x0:AT)(x1:AT)(Q:Int→Prop):Prop:=let v0:=List.length ([]:List Int);let v1:=List.length (([]:List Int)++x0.1);let v2:=List.length (([]:List Int)++x1.1);((v0+x0.1.length)*8≤140737488355328∧v0+x0.1.length≤9223372036854775807)∧((v1+List.length [x0.2])*8≤140737488355328∧v1+List.length [x0.2]≤9223372036854775807)∧((v0+x1.1.length)*8≤140737488355328∧v0+x1.1.length≤9223372036854775807)∧((v2+List.length [x1.2])*8≤140737488355328∧v2+List.length [x1.2]≤9223372036854775807)∧DO.pre (([]:List Int)++x0.1++[x0.2],(([]:List Int)++x1.1++[x1.2],()))∧Q (DO.fn (([]:List Int)++x0.1++[x0.2],(([]:List Int)++x1.1++[x1.2],())))
def D3.wp(x0:O)(x1:O)(Q:Int→Prop):Prop:=let v0:=FB.fn (x0.1,());let v1:=FB.fn (x1.1,());let v2:=DO.fn ([v0,x0.2.1],([v1,x1.2.1],()));DO.pre ([v0,x0.2.1],([v1,x1.2.1],()))∧cond (v2 !=0) (Q v2) (EP.pre (x0.2.2,(x1.2.2,()))∧Q (EP.fn (x0.2.2,(x1.2.2,()))))
def D8.wp(x0:List O)(Q:List O→Prop):Prop:=let v4:=List.length ([]:List O);Lp (σ:=Int×List O) (λy2 R2=>let v1:=x0.getD y2.1.toNat U;cond (decide (y2.1<x0.length)) ((0≤y2.1∧y2.1<x0.length)∧Lp (σ:=Int) (λy4 R4=>let v0:=y2.2.getD y4.toNat U;let v5:=List.take y4.toNat y2.2;let v6:=List.length (([]:List O)++v5);let v7:=List.length (([]:List O)++v5++[v1]);let v8:=List.drop y4.toNat y2.2;(decide (y4<y2.2.length)=true→decide (y4<y2.2.length)=true∧decide (y4<y2.2.length)=true∧0≤y4∧y4<y2.2.length)∧(decide (y4<y2.2.length)=true→decide (y4<y2.2.length)=true∧True)∧(decide (y4<y2.2.length)=true→decide (y4<y2.2.length)=true∧decide (y4<y2.2.length)=true∧D3.pre (v0,(v1,())))∧(decide (y4<y2.2.length)=true→decide (y4<y2.2.length)=true∧True)∧(decide (y4<y2.2.length)=true→decide (y4<y2.2.length)=true)∧cond (decide (y4<y2.2.length)&&decide ( D3.fn (v0,(v1,()))<0)) (AB .i64 (y4+1)∧R4 (y4+1)) ((decide (y4<y2.2.length)=true→decide (y4<y2.2.length)=true∧decide (y4<y2.2.length)=true∧0≤y4∧y4<y2.2.length)∧(decide (y4<y2.2.length)=true→decide (y4<y2.2.length)=true∧True)∧(decide (y4<y2.2.length)=true→decide (y4<y2.2.length)=true∧decide (y4<y2.2.length)=true∧True)∧(decide (y4<y2.2.length)=true→decide (y4<y2.2.length)=true)∧cond (decide (y4<y2.2.length)&&En.fn (v0,(v1,()))) (AB .i64 (y2.1+1)∧R2 ( y2.1+1,y2.2)) ((0≤y4∧y4≤y2.2.length)∧((v4+v5.length)*48≤140737488355328∧v4+v5.length≤9223372036854775807)∧((v6+List.length [v1])*48≤140737488355328∧v6+List.length [v1]≤9223372036854775807)∧(0≤y4∧y4≤y2.2.length)∧((v7+v8.length)*48≤140737488355328∧v7+v8.length≤9223372036854775807)∧AB .i64 (y2.1+1)∧R2 ( y2.1+1,([]:List O)++v5++[v1]++v8)))) 0) (Q y2.2)) (0,([]:List O))
def Ce.wp(x0:List O)(Q:List O×Bool×Int→Prop):Prop:=Lp (σ:=Int×Bool×List O×List O×List O) (λy2 R2=>let v0:=x0.getD y2.1.toNat U;let v1:=[(((BM.fn (v0,())).1).1,((((BM.fn (v0,())).1).2).1,(((BM.fn (v0,())).1).2).2))];let v2:=C2.fn ((((BM.fn (v0,())).1).1,((((BM.fn (v0,())).1).2).1,(((BM.fn (v0,())).1).2).2)),());cond (decide (y2.1<x0.length)) ((0≤y2.1∧y2.1<x0.length)∧BM.pre (v0,())∧cond ((BM.fn (v0,())).2==-1) (Q (([]:List O),(true,0))) (cond ((BM.fn (v0,())).2==1) (AB .i64 (y2.1+1)∧R2 ( y2.1+1,y2.2)) (((!y2.2.1)=true→(!y2.2.1)=true∧True)∧((!y2.2.1)=true→(!y2.2.1)=true∧True)∧(y2.2.1=false→(!y2.2.1)=true)∧cond (((BM.fn (v0,())).1).1==0) (((y2.2.2.1.length+v1.length)*48≤140737488355328∧y2.2.2.1.length+v1.length≤9223372036854775807)∧AB .i64 (y2.1+1)∧R2 ( y2.1+1,( y2.2.1||!v2,( y2.2.2.1++v1,y2.2.2.2)))) (cond (((BM.fn (v0,())).1).1==1) (((y2.2.2.2.1.length+v1.length)*48≤140737488355328∧y2.2.2.2.1.length+v1.length≤9223372036854775807)∧AB .i64 (y2.1+1)∧R2 ( y2.1+1,( y2.2.1||!v2,(y2.2.2.1,( y2.2.2.2.1++v1,y2.2.2.2.2))))) (((y2.2.2.2.2.length+v1.length)*48≤140737488355328∧y2.2.2.2.2.length+v1.length≤9223372036854775807)∧AB .i64 (y2.1+1)∧R2 ( y2.1+1,( y2.2.1||!v2,(y2.2.2.1,(y2.2.2.2.1,y2.2.2.2.2++v1))))))))) (Lp (σ:=Int×List O) (λy4 R4=>let v4:=y2.2.2.1.getD y4.1.toNat U;cond (decide (y4.1<y2.2.2.1.length)) ((0≤y4.1∧y4.1<y2.2.2.1.length)∧Int.toNat y4.1<y2.2.2.1.length∧Lp (σ:=Int×Bool×List O) (λy6 R6=>let v3:=y6.2.2.getD y6.1.toNat U;cond (decide (y6.1<y4.2.length)) ((0≤y6.1∧y6.1<y6.2.2.length)∧Int.toNat y6.1<y6.2.2.length∧Cf.pre (v3,(v4,()))∧cond ( Cf.fn (v3,(v4,()))==1) ((0≤y6.1∧y6.1<y6.2.2.length)∧Int.toNat y6.1<y6.2.2.length∧(0≤y6.1∧y6.1<y6.2.2.length)∧Int.toNat y6.1<y6.2.2.length∧AB .i64 (y6.1+1)∧R6 ( y6.1+1,(true,List.set y6.2.2 y6.1.toNat (v3.1,(v3.2.1,(v3.2.2.1,Min.min v3.2.2.2 v4.2.2.2)))))) (AB .i64 (y6.1+1)∧R6 ( y6.1+1,y6.2))) (cond (!y6.2.1) (((y6.2.2.length+List.length [v4])*48≤140737488355328∧y6.2.2.length+List.length [v4]≤9223372036854775807)∧AB .i64 (y4.1+1)∧R4 ( y4.1+1,y6.2.2++[v4])) (AB .i64 (y4.1+1)∧R4 ( y4.1+1,y6.2.2)))) (0,(false,y4.2))) ((0≤(y4.2.length:Int)∧y4.2.length≤(y4.2.length:Int)∧y4.2.length*((1:Nat):Int)≤140737488355328∧(y4.2.length:Int)≤9223372036854775807)∧Lp (σ:=Int×List O×List Bool) (λy6 R6=>let v10:=y4.2.getD y6.1.toNat U;let v14:=BM.fn ((1,(0,v10.2.2)),());cond (decide (y6.1<y4.2.length)) ((0≤y6.1∧y6.1<y4.2.length)∧Int.toNat y6.1<y4.2.length∧AB .i64 (y6.1+1)∧Lp (σ:=Int×List O×List Bool) (λy8 R8=>let v11:=y4.2.getD y8.1.toNat U;let v13:=List.set y8.2.2 y6.1.toNat true;cond (decide (y8.1<y4.2.length)) ((0≤y8.1∧y8.1<y4.2.length)∧Int.toNat y8.1<y4.2.length∧Cf.pre (v10,(v11,()))∧cond ( Cf.fn (v10,(v11,()))!=-1) (AB .i64 (y8.1+1)∧R8 ( y8.1+1,y8.2)) (AB .i64 (v10.2.2.2+v11.2.2.2)∧cond (decide ( v10.2.2.2+v11.2.2.2<0)) (Q (([]:List O),(true,0))) (AB .i64 (v10.2.2.2+v11.2.2.2)∧cond ( v10.2.2.2+v11.2.2.2==0) ((0≤y6.1∧y6.1<y8.2.2.length)∧Int.toNat y6.1<y8.2.2.length∧(0≤y8.1∧y8.1<v13.length)∧Int.toNat y8.1<v13.length∧BM.pre ((1,(0,v10.2.2)),())∧((y8.2.1.length+List.length [v14.1])*48≤140737488355328∧y8.2.1.length+List.length [v14.1]≤9223372036854775807)∧AB .i64 (y8.1+1)∧R8 ( y8.1+1,( y8.2.1++[v14.1],List.set v13 y8.1.toNat true))) (AB .i64 (y8.1+1)∧R8 ( y8.1+1,y8.2))))) (AB .i64 (y6.1+1)∧R6 ( y6.1+1,y8.2))) ( y6.1+1,y6.2)) (Lp (σ:=Int×List Bool) (λy8 R8=>let v16:=y6.2.1.getD y8.1.toNat U;cond (decide (y8.1<y6.2.1.length)) ((0≤y8.1∧y8.1<y6.2.1.length)∧Int.toNat y8.1<y6.2.1.length∧(0≤y8.1∧y8.1≤y6.2.1.length)∧Lp (λy10 R10=>let v17:=y6.2.1.getD (0+Int.toNat y10) U;let v18:=Cf.fn (v16,(v17,()));cond (decide (y10<((Int.toNat y8.1:Nat):Int))) ((0≤y10∧y10<((Int.toNat y8.1:Nat):Int)∧0+Int.toNat y8.1≤y6.2.1.length)∧0+Int.toNat y10<y6.2.1.length∧Cf.pre (v16,(v17,()))∧((v18==1)=true→(v18==1)=true∧True)∧((v18==1)=true→(v18==1)=true∧True)∧((v18==1)=true→(v18==1)=true∧True)∧((v18==1)=true→(v18==1)=true∧True)∧((v18==1)=true→(v18==1)=true∧(v18==1)=true∧True)∧((v18==1)=true→(v18==1)=true)∧cond ( v18==1&&v16.2.2.2 !=v17.2.2.2) (Q (([]:List O),(true,0))) (AB .i64 (y10+1)∧R10 (y10+1))) (Lp (σ:=Int×List Bool) (λy12 R12=>let v19:=y12.2.getD y12.1.toNat false;let v20:=y4.2.getD y12.1.toNat U;let v21:=Cf.fn (v16,(v20,()));cond (decide (y12.1<y4.2.length)) ((0≤y12.1∧y12.1<y4.2.length)∧Int.toNat y12.1<y4.2.length∧(0≤y12.1∧y12.1<y12.2.length)∧Int.toNat y12.1<y12.2.length∧((!v19)=true→(!v19)=true∧(!v19)=true∧Cf.pre (v16,(v20,())))∧((!v19)=true→(!v19)=true∧True)∧(v19=false→(!v19)=true)∧cond (v19||v21==0) (AB .i64 (y12.1+1)∧R12 ( y12.1+1,y12.2)) (Cf.pre (v16,(v20,()))∧AB .i64 (v21*v16.2.2.2)∧AB .i64 (v20.2.2.2-v21*v16.2.2.2)∧cond (decide ( v20.2.2.2-v21*v16.2.2.2<0)) (Q (([]:List O),(true,0))) ((0≤y12.1∧y12.1<y12.2.length)∧Int.toNat y12.1<y12.2.length∧AB .i64 (y12.1+1)∧R12 ( y12.1+1,List.set y12.2 y12.1.toNat true)))) (AB .i64 (y8.1+1)∧R8 ( y8.1+1,y12.2))) (0,y8.2))) 0) (Lp (σ:=Int×List O) (λy10 R10=>let v24:=y4.2.getD y10.1.toNat U;let v25:=D8.fn ( y10.2++y2.2.2.2.2,());cond (decide (y10.1<y4.2.length)) ((0≤y10.1∧y10.1<y4.2.length)∧Int.toNat y10.1<y4.2.length∧(0≤y10.1∧y10.1<y8.2.length)∧Int.toNat y10.1<y8.2.length∧cond (! y8.2.getD y10.1.toNat false) (((y10.2.length+List.length [v24])*48≤140737488355328∧y10.2.length+List.length [v24]≤9223372036854775807)∧AB .i64 (y10.1+1)∧R10 ( y10.1+1,y10.2++[v24])) (AB .i64 (y10.1+1)∧R10 ( y10.1+1,y10.2))) (((y10.2.length+y2.2.2.2.2.length)*48≤140737488355328∧y10.2.length+y2.2.2.2.2.length≤9223372036854775807)∧D8.pre ( y10.2++y2.2.2.2.2,())∧((!y2.2.1)=true→(!y2.2.1)=true∧True)∧((!y2.2.1)=true→(!y2.2.1)=true∧True)∧(y2.2.1=false→(!y2.2.1)=true)∧cond (y2.2.1||decide (96<(v25.length:Int))) (Q (([]:List O),(false,3))) (Q (v25,(false,0))))) (0,y6.2.1))) (0,y6.2.2))) (0,(y2.2.2.2.1,.replicate (Int.toNat y4.2.length) false)))) (0,([]:List O)))) (0,(false,(([]:List O),(([]:List O),([]:List O)))))
def Fj.wp(x0:List (List O))(x1:List O)(Q:Bool→Prop):Prop:=Lp (σ:=Int) (λy3 R3=>cond (decide (y3<x0.length)) ((0≤y3∧y3<x0.length)∧cond (D7.fn ( x0.getD y3.toNat ([]:List O),(x1,()))) (Q true) (AB .i64 (y3+1)∧R3 (y3+1))) (Q false)) 0
def D6.wp(x0:List (List O))(Q:List (List O)×Int→Prop):Prop:=Lp (σ:=Int×List (List O)) (λy2 R2=>let v0:=x0.getD y2.1.toNat ([]:List O);let v1:=Ce.fn (v0,());cond (decide (y2.1<x0.length)) ((0≤y2.1∧y2.1<x0.length)∧Ce.pre (v0,())∧cond (v1.2.2 !=0) (Q (([]:List (List O)),v1.2.2)) (((!v1.2.1)=true→(!v1.2.1)=true∧(!v1.2.1)=true∧True)∧((!v1.2.1)=true→(!v1.2.1)=true∧True)∧((!v1.2.1)=true→(!v1.2.1)=true)∧cond ( !v1.2.1&&! Fj.fn (y2.2,(v1.1,()))) (((y2.2.length+List.length [v1.1])*24≤140737488355328∧y2.2.length+List.length [v1.1]≤9223372036854775807)∧AB .i64 (y2.1+1)∧R2 ( y2.1+1,y2.2++[v1.1])) (AB .i64 (y2.1+1)∧R2 ( y2.1+1,y2.2)))) (Q (y2.2,0))) (0,([]:List (List O)))
def Bu.wp(x0:Int)(x1:List (List O))(Q:(Int×List (List O))×Int→Prop):Prop:=let v0:=D6.fn (x1,());D6.pre (x1,())∧( ! v0.2 !=0=true→(! v0.2 !=0)=true∧True)∧((! v0.2 !=0)=true→! v0.2 !=0=true∧True)∧((v0.2 !=0)=false→(! v0.2 !=0)=true)∧cond ( v0.2 !=0||decide (400<(v0.1.length:Int))) (Q ((0,([]:List (List O))),3)) (Q ((x0,v0.1),0))
def EQ.wp(x0:Int×List (List O))(Q:(Int×List (List O))×Int→Prop):Prop:=cond (! Bl.fn (x0,())) (Q ((0,([]:List (List O))),1)) (Bu.pre (x0.1,(x0.2,()))∧Q (Bu.fn (x0.1,(x0.2,()))))
def CK.wp(x0:List O)(x1:List O)(Q:List O→Prop):Prop:=let v0:=List.length ([]:List O);let v1:=List.length (([]:List O)++x0);((v0+x0.length)*48≤140737488355328∧v0+x0.length≤9223372036854775807)∧((v1+x1.length)*48≤140737488355328∧v1+x1.length≤9223372036854775807)∧Q (([]:List O)++x0++x1)
def Cp.wp(x0:Int)(x1:AT)(x2:Int)(x3:AT)(Q:AT→Prop):Prop:=(0≤(x1.1.length:Int)∧x1.1.length≤(x1.1.length:Int)∧x1.1.length*((8:Nat):Int)≤140737488355328∧(x1.1.length:Int)≤9223372036854775807)∧AB .i64 (x0*x1.2)∧AB .i64 (x2*x3.2)∧AB .i64 ( x0*x1.2+x2*x3.2)∧Lp (σ:=Int×List Int) (λy5 R5=>let v2:=x1.1.getD y5.1.toNat 0;let v3:=x3.1.getD y5.1.toNat 0;cond (decide (y5.1<x1.1.length)) ((0≤y5.1∧y5.1<x1.1.length)∧AB .i64 (x0*v2)∧(0≤y5.1∧y5.1<x3.1.length)∧AB .i64 (x2*v3)∧AB .i64 ( x0*v2+x2*v3)∧(0≤y5.1∧y5.1<y5.2.length)∧Int.toNat y5.1<y5.2.length∧AB .i64 (y5.1+1)∧R5 ( y5.1+1,List.set y5.2 y5.1.toNat ( x0*v2+x2*v3))) (Q (y5.2,x0*x1.2+x2*x3.2))) (0,.replicate (Int.toNat x1.1.length) 0)
def Fh.wp(x0:O)(Q:List O×Int→Prop):Prop:=let v1:=List.replicate (Int.toNat x0.2.2.1.length) 0;let v2:=Cp.fn (-1,(x0.2.2,(-1,((v1,1),()))));let v9:=[(0,(0,(v1,0)))];cond (! C2.fn (x0,())) (Q (([]:List O),1)) ((0≤(x0.2.2.1.length:Int)∧x0.2.2.1.length≤(x0.2.2.1.length:Int)∧x0.2.2.1.length*((8:Nat):Int)≤140737488355328∧(x0.2.2.1.length:Int)≤9223372036854775807)∧Fr (σ:=List O×Bool×Bool×Int) (λy2=>Lp (σ:=Int×List O) (λy3 R3=>let v8:=y2.1.getD y3.1.toNat U;let v11:=[(((BM.fn (v8,())).1).1,((((BM.fn (v8,())).1).2).1,(((BM.fn (v8,())).1).2).2))];cond (decide (y3.1<y2.1.length)) ((0≤y3.1∧y3.1<y2.1.length)∧BM.pre (v8,())∧cond ((BM.fn (v8,())).2==1) (((y3.2.length+v9.length)*48≤140737488355328∧y3.2.length+v9.length≤9223372036854775807)∧AB .i64 (y3.1+1)∧R3 ( y3.1+1,y3.2++v9)) ((((BM.fn (v8,())).2==0)=true→((BM.fn (v8,())).2==0)=true∧True)∧(((BM.fn (v8,())).2==0)=true→((BM.fn (v8,())).2==0)=true∧True)∧(((BM.fn (v8,())).2==0)=true→((BM.fn (v8,())).2==0)=true)∧cond ((BM.fn (v8,())).2==0&&! C2.fn ((((BM.fn (v8,())).1).1,((((BM.fn (v8,())).1).2).1,(((BM.fn (v8,())).1).2).2)),())) (Q (([]:List O),3)) (cond ((BM.fn (v8,())).2==0) (((y3.2.length+v11.length)*48≤140737488355328∧y3.2.length+v11.length≤9223372036854775807)∧AB .i64 (y3.1+1)∧R3 ( y3.1+1,y3.2++v11)) (AB .i64 (y3.1+1)∧R3 ( y3.1+1,y3.2))))) (cond (decide (400<(y3.2.length:Int))) (Q (([]:List O),3)) (Q (y3.2,0)))) (0,([]:List O))) λJ2=>cond (x0.1==0) (Cp.pre (-1,(x0.2.2,(-1,((v1,1),()))))∧J2 ([(0,(0,v2))],( x0.1==0,( x0.1==0,x0.1)))) (cond (x0.1==1) (Cp.pre (1,(x0.2.2,(-1,((v1,1),()))))∧Cp.pre (-1,(x0.2.2,(-1,((v1,1),()))))∧J2 ([(0,(0,Cp.fn (1,(x0.2.2,(-1,((v1,1),())))))),(0,(0,v2))],( x0.1==0,( x0.1==0,x0.1)))) (Lp (σ:=Int×List O) (λy3 R3=>let v7:=[(2,(x0.2.1,Cp.fn (1,(x0.2.2,(-y3.1,((v1,1),()))))))];cond (decide (y3.1<x0.2.1)) (AB .i64 (-y3.1)∧Cp.pre (1,(x0.2.2,(-y3.1,((v1,1),()))))∧((y3.2.length+v7.length)*48≤140737488355328∧y3.2.length+v7.length≤9223372036854775807)∧AB .i64 (y3.1+1)∧R3 ( y3.1+1,y3.2++v7)) (J2 (y3.2,( x0.1==0,( x0.1==0,x0.1))))) (1,([]:List O)))))
def Fl.wp(x0:Int×List (List O))(x1:Int×List (List O))(Q:(Int×List (List O))×Int→Prop):Prop:=let v0:=D5.fn (x0,(x1,()));let v1:=EQ.fn (x0,());let v2:=EQ.fn (x1,());cond (v0 !=0) (Q ((0,([]:List (List O))),v0)) (((! v1.2 !=0)=true→(! v1.2 !=0)=true∧True)∧((v1.2 !=0)=false→(! v1.2 !=0)=true)∧cond ( v1.2 !=0||v2.2 !=0) (Q ((0,([]:List (List O))),3)) (Lp (σ:=Int×List (List O)) (λy3 R3=>let v4:=v2.1.2.getD y3.1.toNat ([]:List O);cond (decide (y3.1<v2.1.2.length)) ((0≤y3.1∧y3.1<v2.1.2.length)∧Lp (σ:=Int×List (List O)) (λy5 R5=>let v3:=y3.2.getD y5.1.toNat ([]:List O);let v5:=CK.fn (v3,(v4,()));let v6:=Ce.fn (v5,());let v13:=Bu.fn (x0.1,(y5.2,()));cond (decide (y5.1<y3.2.length)) ((0≤y5.1∧y5.1<y3.2.length)∧CK.pre (v3,(v4,()))∧Ce.pre (v5,())∧cond (v6.2.2 !=0) (Q ((0,([]:List (List O))),v6.2.2)) (cond v6.2.1 (((y5.2.length+List.length [v3])*24≤140737488355328∧y5.2.length+List.length [v3]≤9223372036854775807)∧AB .i64 (y5.1+1)∧R5 ( y5.1+1,y5.2++[v3])) (Lp (σ:=Int×List (List O)) (λy7 R7=>let v8:=Fh.fn ( v4.getD y7.1.toNat U,());let v9:=List.take y7.1.toNat v4;let v10:=CK.fn (v3,(v9,()));cond (decide (y7.1<v4.length)) ((0≤y7.1∧y7.1<v4.length)∧cond (v8.2 !=0) (Q ((0,([]:List (List O))),v8.2)) (Lp (σ:=Int×List (List O)) (λy9 R9=>let v11:=v8.1.getD y9.1.toNat U;let v12:=CK.fn (v10,([v11],()));cond (decide (y9.1<v8.1.length)) ((0≤y9.1∧y9.1<v8.1.length)∧(0≤y7.1∧y7.1≤v4.length)∧CK.pre (v3,(v9,()))∧CK.pre (v10,([v11],()))∧((y9.2.length+List.length [v12])*24≤140737488355328∧y9.2.length+List.length [v12]≤9223372036854775807)∧AB .i64 (y9.1+1)∧R9 ( y9.1+1,y9.2++[v12])) (AB .i64 (y7.1+1)∧R7 ( y7.1+1,y9.2))) (0,y7.2))) (AB .i64 (y5.1+1)∧R5 ( y5.1+1,y7.2))) (0,y5.2)))) (Bu.pre (x0.1,(y5.2,()))∧cond (v13.2 !=0) (Q ((0,([]:List (List O))),v13.2)) (AB .i64 (y3.1+1)∧R3 ( y3.1+1,v13.1.2)))) (0,([]:List (List O)))) (Q ((x0.1,y3.2),0))) (0,v1.1.2)))
def Fm.wp(x0:List O)(x1:Int)(Q:List O×Bool×Int→Prop):Prop:=((! decide (x1<0))=true→(! decide (x1<0))=true∧True)∧(decide (x1<0)=false→(! decide (x1<0))=true)∧cond (decide (x1<0)||decide (12<x1)) (Q (([]:List O),(false,6))) (cond (decide (384<(x0.length:Int))) (Q (([]:List O),(false,3))) (Lp (σ:=Int×Int) (λy3 R3=>let v0:=x0.getD y3.1.toNat U;cond (decide (y3.1<x0.length)) ((0≤y3.1∧y3.1<x0.length)∧cond (! C2.fn (v0,())) (Q (([]:List O),(false,1))) (cond (v0.2.2.1.length !=x1) (AB .i64 (y3.1+1)∧R3 ( y3.1+1,2)) (AB .i64 (y3.1+1)∧R3 ( y3.1+1,y3.2)))) (cond (y3.2 !=0) (Q (([]:List O),(false,y3.2))) (Ce.pre (x0,())∧Q ((Ce.fn (x0,())).1,(Ce.fn (x0,())).2)))) (0,0)))
def Fo.wp(x0:Int×List (List O))(x1:Int×List (List O))(Q:(Int×List (List O))×Int→Prop):Prop:=let v0:=D5.fn (x0,(x1,()));let v1:=List.length ([]:List (List O));let v2:=List.length (([]:List (List O))++x0.2);cond (v0 !=0) (Q ((0,([]:List (List O))),v0)) (((v1+x0.2.length)*24≤140737488355328∧v1+x0.2.length≤9223372036854775807)∧((v2+x1.2.length)*24≤140737488355328∧v2+x1.2.length≤9223372036854775807)∧Bu.pre (x0.1,(([]:List (List O))++x0.2++x1.2,()))∧Q (Bu.fn (x0.1,(([]:List (List O))++x0.2++x1.2,()))))
def Fk.wp(x0:Int×List (List O))(x1:Int×List (List O))(Q:(Int×List (List O))×Int→Prop):Prop:=let v0:=D5.fn (x0,(x1,()));cond (v0 !=0) (Q ((0,([]:List (List O))),v0)) (Lp (σ:=Int×List (List O)) (λy3 R3=>let v1:=x0.2.getD y3.1.toNat ([]:List O);cond (decide (y3.1<x0.2.length)) ((0≤y3.1∧y3.1<x0.2.length)∧Lp (σ:=Int×List (List O)) (λy5 R5=>let v2:=x1.2.getD y5.1.toNat ([]:List O);let v3:=CK.fn (v1,(v2,()));cond (decide (y5.1<x1.2.length)) ((0≤y5.1∧y5.1<x1.2.length)∧CK.pre (v1,(v2,()))∧((y5.2.length+List.length [v3])*24≤140737488355328∧y5.2.length+List.length [v3]≤9223372036854775807)∧AB .i64 (y5.1+1)∧R5 ( y5.1+1,y5.2++[v3])) (AB .i64 (y3.1+1)∧R3 ( y3.1+1,y5.2))) (0,y3.2)) (Bu.pre (x0.1,(y3.2,()))∧Q (Bu.fn (x0.1,(y3.2,()))))) (0,([]:List (List O))))
def D1.wp(x0:AT)(x1:List Int)(Q:Int→Prop):Prop:=Lp (σ:=Int×Int) (λy3 R3=>let v0:=x0.1.getD y3.1.toNat 0;let v1:=x1.getD y3.1.toNat 0;cond (decide (y3.1<x0.1.length)) ((0≤y3.1∧y3.1<x0.1.length)∧(0≤y3.1∧y3.1<x1.length)∧AB .i64 (v0*v1)∧AB .i64 (y3.2+v0*v1)∧AB .i64 (y3.1+1)∧R3 ( y3.1+1,y3.2+v0*v1)) (Q y3.2)) (0,x0.2)
def D4.wp(x0:O)(x1:List Int)(Q:Bool→Prop):Prop:=let v0:=D1.fn (x0.2.2,(x1,()));D1.pre (x0.2.2,(x1,()))∧cond (x0.1==0) (Q (decide (0≤v0))) (cond (x0.1==1) (Q (v0==0)) (x0.2.1≠0∧Q (Int.tmod v0 x0.2.1==0)))
def DB.wp(x0:List O)(x1:List Int)(Q:Bool→Prop):Prop:=Lp (σ:=Int) (λy3 R3=>let v0:=x0.getD y3.toNat U;cond (decide (y3<x0.length)) ((0≤y3∧y3<x0.length)∧D4.pre (v0,(x1,()))∧cond (! D4.fn (v0,(x1,()))) (Q false) (AB .i64 (y3+1)∧R3 (y3+1))) (Q true)) 0
def Ax.wp(x0:Int×List (List O))(x1:List Int)(Q:Bool→Prop):Prop:=Lp (σ:=Int) (λy3 R3=>let v0:=x0.2.getD y3.toNat ([]:List O);cond (decide (y3<x0.2.length)) ((0≤y3∧y3<x0.2.length)∧DB.pre (v0,(x1,()))∧cond (DB.fn (v0,(x1,()))) (Q true) (AB .i64 (y3+1)∧R3 (y3+1))) (Q false)) 0
def Fe.wp(x0:Int)(Q:Bool→Prop):Prop:=(decide (-4294967296≤x0)=true→decide (-4294967296≤x0)=true∧True)∧(decide (-4294967296≤x0)=true→decide (-4294967296≤x0)=true)∧Q (decide (-4294967296≤x0)&&decide (x0≤4294967296))
def Ff.wp(x0:List Int)(Q:Bool→Prop):Prop:=Lp (σ:=Int) (λy2 R2=>cond (decide (y2<x0.length)) ((0≤y2∧y2<x0.length)∧cond (! Fe.fn ( x0.getD y2.toNat 0,())) (Q false) (AB .i64 (y2+1)∧R2 (y2+1))) (Q true)) 0
def Fi.wp(x0:Int×List (List O))(x1:List Int)(Q:Bool×Int→Prop):Prop:=cond (! Bl.fn (x0,())) (Q (false,1)) (cond (x1.length !=x0.1) (Q (false,2)) (cond (! Ff.fn (x1,())) (Q (false,6)) (Ax.pre (x0,(x1,()))∧Q ( Ax.fn (x0,(x1,())),0))))
def BK.wp(x0:Int)(x1:Int)(x2:List (Int×List (List O)))(Q:Bool→Prop):Prop:=Lp (σ:=Int×Int) (λy4 R4=>let v0:=x2.getD y4.1.toNat (0,([]:List (List O)));cond (decide (y4.1<x2.length)) ((0≤y4.1∧y4.1<x2.length)∧Lp (σ:=Int) (λy6 R6=>cond (decide (y6<v0.2.length)) ((0≤y6∧y6<v0.2.length)∧cond (decide (x1<((List.length (v0.2.getD y6.toNat ([]:List O)):Nat):Int))) (Q false) (R6 (IntKind.wrap .i64 (y6+1)))) (R4 ( IntKind.wrap .i64 (y4.1+1),IntKind.wrap .i64 (y4.2+v0.2.length)))) 0) (Q (decide (y4.2≤x0)))) (0,0)
def Ak.wp(Q:Bool→Prop):Prop:=let v0:=Dx.fn (1,(0,()));let v1:=Dx.fn (-1,(5,()));let v3:=Dx.fn (-1,(3,()));let v4:=C3.fn ((1,[[v0,v1]]),((1,[[Dx.fn (1,(-2,())),v3]]),()));let v8:=DP.fn (v4.1,((1,[[v1,Dx.fn (1,(-4,()))],[Dx.fn (-1,(1,())),v0]]),()));let v10:=Ap.fn ((1,[[Dx.fn (1,(-3,())),v3]]),());((v4.2==0)=true→(v4.2==0)=true∧(v4.2==0)=true∧True)∧((v4.2==0)=true→(v4.2==0)=true∧(v4.2==0)=true∧True)∧((v4.2==0)=true→(v4.2==0)=true∧(v4.2==0)=true∧True)∧((v4.2==0)=true→(v4.2==0)=true∧True)∧((v4.2==0)=true→(v4.2==0)=true∧(v4.2==0)=true∧True)∧((v4.2==0)=true→(v4.2==0)=true)∧(( v4.2==0&&v8)=true→( v4.2==0&&v8)=true∧True)∧(( v4.2==0&&v8)=true→( v4.2==0&&v8)=true)∧(( v4.2==0&&v8&&v10.2==0)=true→( v4.2==0&&v8&&v10.2==0)=true∧True)∧(( v4.2==0&&v8&&v10.2==0)=true→( v4.2==0&&v8&&v10.2==0)=true∧True)∧(( v4.2==0&&v8&&v10.2==0)=true→( v4.2==0&&v8&&v10.2==0)=true∧True)∧(( v4.2==0&&v8&&v10.2==0)=true→( v4.2==0&&v8&&v10.2==0)=true∧( v4.2==0&&v8&&v10.2==0)=true∧True)∧(( v4.2==0&&v8&&v10.2==0)=true→( v4.2==0&&v8&&v10.2==0)=true)∧Q ( v4.2==0&&v8&&v10.2==0&&DP.fn (v10.1,((1,[[(1,(0,([1],-3)))]]),())))
def law04_SetNormal.wp(x0:Int×List (List O))(Q:Bool→Prop):Prop:=let v1:=EQ.fn (x0,());let v2:=Cm.fn ((Ap.fn (x0,())).1,((Ap.fn (x0,())).2,(v1.1,(v1.2,()))));cond (! BK.fn (20,(98,([x0],())))) (Q (Ak.fn ())) ((v2=true→v2=true)∧Q (v2&&Ak.fn ()))
def law04_SetMinus.wp(x0:Int×List (List O))(x1:Int×List (List O))(Q:Bool→Prop):Prop:=let v1:=C3.fn (x0,(x1,()));let v2:=Fl.fn (x0,(x1,()));let v3:=Cm.fn (v1.1,(v1.2,(v2.1,(v2.2,()))));cond (! BK.fn (8,(8,([x0,x1],())))) (Q (Ak.fn ())) ((v3=true→v3=true)∧Q (v3&&Ak.fn ()))
def law04_SetSimple.wp(x0:List O)(x1:Int)(Q:Bool→Prop):Prop:=let v0:=Fp.fn (x0,(x1,()));let v1:=Fm.fn (x0,(x1,()));let v2:=D7.fn (v0.1,(v1.1,()));cond (decide (500<(x0.length:Int))) (Q (Ak.fn ())) (((v0.2.1==v1.2.1)=true→(v0.2.1==v1.2.1)=true∧(v0.2.1==v1.2.1)=true∧True)∧((v0.2.1==v1.2.1)=true→(v0.2.1==v1.2.1)=true)∧(( v0.2.1==v1.2.1&&v0.2.2==v1.2.2)=true→( v0.2.1==v1.2.1&&v0.2.2==v1.2.2)=true∧( v0.2.1==v1.2.1&&v0.2.2==v1.2.2)=true∧True)∧(( v0.2.1==v1.2.1&&v0.2.2==v1.2.2)=true→( v0.2.1==v1.2.1&&v0.2.2==v1.2.2)=true)∧(( v0.2.1==v1.2.1&&v0.2.2==v1.2.2&&v2)=true→( v0.2.1==v1.2.1&&v0.2.2==v1.2.2&&v2)=true)∧Q ( v0.2.1==v1.2.1&&v0.2.2==v1.2.2&&v2&&Ak.fn ()))
def law04_SetJoins.wp(x0:Int×List (List O))(x1:Int×List (List O))(Q:Bool→Prop):Prop:=let v1:=EU.fn (x0,(x1,()));let v2:=Fo.fn (x0,(x1,()));let v3:=Cm.fn (v1.1,(v1.2,(v2.1,(v2.2,()))));let v4:=ER.fn (x0,(x1,()));let v5:=Fk.fn (x0,(x1,()));let v6:=Cm.fn (v4.1,(v4.2,(v5.1,(v5.2,()))));cond (! BK.fn (30,(60,([x0,x1],())))) (Q (Ak.fn ())) ((v3=true→v3=true∧v3=true∧v3=true∧v3=true∧True)∧(v3=true→v3=true)∧((v3&&v6)=true→(v3&&v6)=true)∧Q ( v3&&v6&&Ak.fn ()))
def law04_SetHas.wp(x0:Int×List (List O))(x1:List Int)(Q:Bool→Prop):Prop:=let v1:=D9.fn (x0,(x1,()));let v2:=Fi.fn (x0,(x1,()));cond (! BK.fn (402,(98,([x0],())))) (Q (Ak.fn ())) (((v1.1==v2.1)=true→(v1.1==v2.1)=true∧(v1.1==v2.1)=true∧True)∧((v1.1==v2.1)=true→(v1.1==v2.1)=true)∧(( v1.1==v2.1&&v1.2==v2.2)=true→( v1.1==v2.1&&v1.2==v2.2)=true)∧Q ( v1.1==v2.1&&v1.2==v2.2&&Ak.fn ()))
def law04_SetApart.wp(x0:Int×List (List O))(x1:List Int)(Q:Bool→Prop):Prop:=let v1:=D9.fn (x0,(x1,()));let v2:=C3.fn ((Cg.fn (x0.1,())).1,(x0,()));let v6:=C3.fn (x0,(x0,()));let v8:=C3.fn ((Cg.fn (x0.1,())).1,(v2.1,()));cond (! BK.fn (6,(8,([x0],())))) (Q (Ak.fn ())) (((!(Cg.fn (x0.1,())).2 !=0)=true→!(Cg.fn (x0.1,())).2 !=0=true∧True)∧(((Cg.fn (x0.1,())).2 !=0)=false→(!(Cg.fn (x0.1,())).2 !=0)=true)∧((!((Cg.fn (x0.1,())).2 !=0||v1.2 !=0))=true→(!((Cg.fn (x0.1,())).2 !=0||v1.2 !=0))=true∧True)∧(((Cg.fn (x0.1,())).2 !=0||v1.2 !=0)=false→(!((Cg.fn (x0.1,())).2 !=0||v1.2 !=0))=true)∧cond ((Cg.fn (x0.1,())).2 !=0||v1.2 !=0||v2.2 !=0) (Q (Ak.fn ())) (Ax.pre (v2.1,(x1,()))∧cond ( Ax.fn (v2.1,(x1,()))==v1.1) (Q false) (Lp (σ:=Int×Int) (λy3 R3=>let v4:=v2.1.2.getD y3.1.toNat ([]:List O);cond (decide (y3.1<v2.1.2.length)) ((0≤y3.1∧y3.1<v2.1.2.length)∧DB.pre (v4,(x1,()))∧cond (DB.fn (v4,(x1,()))) (AB .i64 (y3.2+1)∧AB .i64 (y3.1+1)∧R3 ( y3.1+1,y3.2+1)) (AB .i64 (y3.1+1)∧R3 ( y3.1+1,y3.2))) (((v6.2==0)=true→(v6.2==0)=true∧(v6.2==0)=true∧Ax.pre (v6.1,(x1,())))∧((v6.2==0)=true→(v6.2==0)=true)∧cond ( v6.2==0&&Ax.fn (v6.1,(x1,()))) (Q false) (cond (decide ((v2.1.2.length:Int)≤12)) (((v8.2==0)=true→(v8.2==0)=true∧(v8.2==0)=true∧Ax.pre (v8.1,(x1,())))∧((v8.2==0)=true→(v8.2==0)=true∧(v8.2==0)=true∧True)∧((v8.2==0)=true→(v8.2==0)=true)∧cond ( v8.2==0&&Ax.fn (v8.1,(x1,()))!=v1.1) (Q false) (((decide (0<y3.2)==!v1.1)=true→(decide (0<y3.2)==!v1.1)=true)∧Q ( decide (0<y3.2)==!v1.1&&Ak.fn ()))) (((decide (0<y3.2)==!v1.1)=true→(decide (0<y3.2)==!v1.1)=true)∧Q ( decide (0<y3.2)==!v1.1&&Ak.fn ()))))) (0,0))))
theorem FC.spec(b:Bool):FC.wp b λr=>r=FC.fn (b,()):=by cases b<;>rfl
theorem Cq.spec(l:AT)(g k:Int)(hp:Cq.pre (l,g,k,())):Cq.wp l g k λr=>r=Cq.fn (l,g,k,()):=by
 obtain⟨h1,h2,h3⟩:=hp;simp only at h1 h2 h3;simp only[Cq.wp,yQ];refine⟨⟨by omega,by omega,by omega,by omega⟩,?_⟩;refine Lp.fill l.1 0 0 (·.tdiv g) (by omega) (λi out R hi hi' hf ho hR=>?_) λR=>?_;·simp only[yO hi',yQ];have hn:=h3 _ (AX (d:=0) hi);exact⟨⟨by omega,hi'⟩,⟨h1,Ju hn.1 hn.2⟩,⟨by omega,by omega⟩,by omega,hf,hR⟩
 ·simp only[yY,yZ,yN];rfl
theorem FB.spec(k:Int):FB.wp k λr=>r=FB.fn (k,()):=by
 simp only[FB.wp,FB.fn,CB];by_cases h:k=0;·subst h;rfl
 ·by_cases h2:k=1;·subst h2;rfl
  ·simp[h,h2]
theorem kZ(l:List Int):∀g:Nat,l.foldl (λg n=>Nat.gcd g n.natAbs) g=Nat.gcd g (AO l):=by induction l with|nil=>intro g;simp[AO]|cons m l ih=>intro g;simp only[ZAg,AO];rw[ih,ih (Nat.gcd 0 m.natAbs),ZCU,Nat.gcd_assoc]
theorem Po(m:Int)(l:List Int):AO (m::l)=Nat.gcd m.natAbs (AO l):=by simp only[AO,ZAg];rw[kZ,ZCU];rfl
theorem lG(m:Int)(l:List Int):AO (l++[m])=Nat.gcd (AO l) m.natAbs:=by simp only[AO,ZBF,ZAg,List.foldl_nil]
theorem lD(m:Int)(l:List Int):AO (l++[m])=AO (m::l):=by rw[Po,lG,ZDp]
theorem BM.spec(c:O)(hp:BM.pre (c,())):BM.wp c λr=>r=BM.fn (c,()):=by
 obtain⟨hk,hb⟩:condB c:=hp;obtain⟨h1,h2,h3⟩:=id hb;unfold Bj at h3;have Hl:AO c.2.2.1≤9223372036854775807:=Pp hb.ints;have hfn:BM.fn (c,())=AV c:=rfl;simp only[BM.wp,D0.fn,Cc.fn,FC.fn,hfn];refine⟨hb.ints,?_⟩;have QF:∀g k:Int,g≠0→Cq.pre (c.2.2,g,k,()):=λg k hg=>⟨hg,h1,hb.ints⟩;have Ka:∀g:Int,AB .i64 (c.2.2.2.tdiv g):=λg=>Ju (by omega) (by omega);rcases hk with hk|hk|⟨hk,Dd,HI⟩
 ·have hr:AV c=FM c:=by simp[AV,hk]
  simp only[hk,ZAG,yR,hr];unfold FM;by_cases hg:AO c.2.2.1=0;·rw[yS hg,hg];rfl
  ·rw[beq_eq_false_iff_ne.2 (show((AO c.2.2.1:Nat):Int)≠0 by omega),yP hg];have hf:Dz.fn (c.2.2.2,((AO c.2.2.1:Nat):Int),())=(c.2.2.2/((AO c.2.2.1:Nat):Int),0):=by simp only[Dz.fn,C0.fn];rw[yP (show¬((AO c.2.2.1:Nat):Int)<1 by omega)]
   rw[hf];exact⟨⟨by show-9223372036854775807≤c.2.2.2;omega,by show c.2.2.2≤9223372036854775807;omega⟩,QF _ _ (by omega),rfl⟩
 ·have hr:AV c=Bt c:=by simp[AV,hk]
  simp only[hk,show((1:Int)==0)=false from rfl,ZAG,yR,yN,hr];unfold Bt;by_cases hz:AO c.2.2.1=0;·rw[yS (.inl hz),hz];simp
  ·have HV:((AO c.2.2.1:Nat):Int)≠0:=by omega
   rw[beq_eq_false_iff_ne.2 HV];refine⟨HV,?_⟩;by_cases hm:c.2.2.2.tmod (AO c.2.2.1)≠0;·rw[bne_iff_ne.2 hm,yS (.inr hm)];simp[hz]
   ·have hm':c.2.2.2.tmod (AO c.2.2.1)=0:=by simpa using hm
    rw[hm',zJ,yN,yP (by simp[hz])];refine Lp.iter c.2.2.1.length (λi y=>y=(i:Int)∧∀j,j<i→c.2.2.1.getD j 0=0) ⟨rfl,λj hj=>absurd hj (by omega)⟩ ?_;rintro i y hle⟨rfl,hi⟩R hR;by_cases e:i<c.2.2.1.length
    ·rw[yO (show(i:Int)<(c.2.2.1.length:Int)by omega)];refine⟨⟨by omega,by omega⟩,?_⟩;simp only[yQ];by_cases hn:c.2.2.1.getD i 0=0
     ·simp only[hn,zJ,yN];refine⟨⟨by omega,by omega⟩,hR e _ ⟨by omega,λj hj=>?_⟩⟩;by_cases ej:j=i;·subst ej;exact hn
      ·exact hi j (by omega)
     ·simp only[bne_iff_ne.2 hn,yR];have hfn:Ct c.2.2.1=decide (c.2.2.1.getD i 0<0):=by rw[Pf hi,ZAH e];rw[A7 e]at hn;simp only[Ct,yP hn,A7 e]
      by_cases EM:c.2.2.1.getD i 0<0
      ·rw[yO EM]at hfn;simp only[yO EM,yR];have hs:Bo c=-((AO c.2.2.1:Nat):Int):=by simp[Bo,hfn]
       rw[hs];exact⟨⟨by omega,by omega⟩,⟨by omega,Ka _⟩,QF _ _ (by omega),rfl⟩
      ·rw[yV EM]at hfn;simp only[yV EM,yN];have hs:Bo c=((AO c.2.2.1:Nat):Int):=by simp[Bo,hfn]
       rw[hs];exact⟨⟨HV,Ka _⟩,QF _ _ HV,rfl⟩
    ·have :i=c.2.2.1.length:=by omega
     subst this;simp only[yY,yZ,yN];have hfn:Ct c.2.2.1=false:=by rw[Pf hi,ZA2];rfl
     have hs:Bo c=((AO c.2.2.1:Nat):Int):=by simp[Bo,hfn]
     rw[hs];exact⟨⟨HV,Ka _⟩,QF _ _ HV,rfl⟩
 ·have hr:AV c=EJ c:=by simp[AV,hk]
  simp only[hk,show((2:Int)==0)=false from rfl,show((2:Int)==1)=false from rfl,yN,hr,yQ];refine⟨⟨by omega,by omega,by omega,by omega⟩,?_⟩;have HJ:∀n,DH.fn (n,c.2.1,())=(n%c.2.1,0):=λn=>by simp only[DH.fn,CV.fn];rw[yP (by omega)]
  have Yv:∀n,DH.pre (n,c.2.1,()):=λn=>by show c.2.1≤9223372036854775807;omega
  have hr:∀n:Int,0≤n%c.2.1∧n%c.2.1<c.2.1:=λn=>⟨ZBS _ (by omega),ZBH _ (by omega)⟩;simp only[HJ];refine Lp.fill c.2.2.1 0 0 (·%c.2.1) (by omega) (λi out R hi hi' hf ho hR=>?_) λR=>?_;·simp only[yO hi',yQ];exact⟨⟨by omega,hi'⟩,Yv _,⟨by omega,by omega⟩,by omega,hf,hR⟩
  ·simp only[yY,yZ,yN,ZAk,lD];have TY:As c=AO (c.2.1::c.2.2.1.map (·%c.2.1)):=rfl;have Ag:=NM Dd (c.2.2.1.map (·%c.2.1));have hle:=S5 Dd (c.2.2.1.map (·%c.2.1));rw[←TY]at Ag hle⊢;have hq:=hr c.2.2.2;refine⟨Yv _,⟨by simp;omega,by simp;omega⟩,⟨by simp;omega,by simp;omega⟩,λn hn=>?_,by omega,?_⟩
   ·rcases List.mem_append.1 hn with hn|hn;·obtain⟨a,_,rfl⟩:=List.mem_map.1 hn;have :=hr a;omega
    ·simp only[zC]at hn;omega
   ·unfold EJ;by_cases ht:(c.2.2.2%c.2.1).tmod (As c)≠0;·rw[bne_iff_ne.2 ht,yS ht];rfl
    ·rw[yP ht];have ht:(c.2.2.2%c.2.1).tmod (As c)=0:=by simpa using ht
     rw[ht,zJ];by_cases he:c.2.1=As c;·rw[yS he];simp only[beq_iff_eq.2 he,yR,yN]
     ·rw[yP he,beq_eq_false_iff_ne.2 he];refine⟨⟨by omega,Ju (by omega) (by omega)⟩,⟨by omega,Ju (by omega) (by omega)⟩,⟨by show((As c:Nat):Int)≠0;omega,by simpa using h1,λn hn=>?_⟩,rfl⟩;obtain⟨a,_,rfl⟩:=List.mem_map.1 hn;have :=hr a;constructor<;>omega
theorem rX(C:List Int):(Al C).length=C.length:=by simp[Al]
theorem cO{α:Type}[DecidableEq α]{u v:List α}{x y:α}(h:u.length=v.length):decide (u++[x]=v++[y])=(decide (u=v)&&decide (x=y)):=by
 by_cases h1:u=v
 ·subst h1;by_cases h2:x=y;·subst h2;simp
  ·simp[h2]
 ·have :¬u++[x]=v++[y]:=λe=>h1 (List.append_inj e h).1;simp[this,h1]
theorem Cf.spec(a b:O)(hp:Cf.pre (a,b,())):Cf.wp a b λr=>r=Cf.fn (a,b,()):=by
 obtain⟨hl,hm,hi⟩:=hp;simp only at hl hm hi;have hfn:Cf.fn (a,b,())=By a b:=rfl;simp only[Cf.wp,hfn];refine Lp.iter a.2.2.1.length (λi y=>y=((i:Int),decide (a.2.2.1.take i=Al (b.2.2.1.take i)),decide (a.2.2.1.take i=b.2.2.1.take i))) (by simp[Al]) ?_;rintro i y hle rfl R hR;by_cases e:i<a.2.2.1.length
 ·have hn:=hi _ (AX (d:=0) (show i<b.2.2.1.length by omega));have ha:=BN 0 e;have hb:=BN 0 (show i<b.2.2.1.length by omega);simp only[yO (show(i:Int)<(a.2.2.1.length:Int)by omega),yQ,yR];refine⟨?_,?_,?_,?_,?_,?_,?_,?_,?_,?_,?_,?_,?_,?_,?_,?_,?_,?_,λh=>⟨h,by omega,by omega⟩,?_,?_,⟨by omega,by omega⟩,hR e _ ?_⟩;iterate 20(·intro h;first|exact⟨h,trivial⟩|exact⟨h,h,trivial⟩|exact h|exact⟨h,h,by omega,by omega⟩)
  have Tx:Al (b.2.2.1.take i++[b.2.2.1.getD i 0])=Al (b.2.2.1.take i)++[-b.2.2.1.getD i 0]:=by simp[Al]
  rw[ha,hb,Tx,cO (by rw[rX];simp;omega),cO (by simp;omega)];rfl
 ·have :i=a.2.2.1.length:=by omega
  subst this;simp only[yY,yZ,yN,zA];rw[hl,zA];unfold By;by_cases h1:a.2.2.1=b.2.2.1;·rw[yS h1,yO h1];rfl
  ·rw[yP h1,yV h1];by_cases h2:a.2.2.1=Al b.2.2.1;·rw[yS h2,yO h2];rfl
   ·rw[yP h2,yV h2];rfl
theorem DO.spec(a b:List Int)(Ys:a.length≤9223372036854775807)(hp:DO.pre (a,b,())):DO.wp a b λr=>r=DO.fn (a,b,()):=by
 have hl:a.length=b.length:=hp;have hfn:DO.fn (a,b,())=BL a b:=rfl;simp only[DO.wp,hfn];refine Lp.iter a.length (λi y=>y=(i:Int)∧BL a b=BL (a.drop i) (b.drop i)) ⟨rfl,rfl⟩ ?_;rintro i y hle⟨rfl,hd⟩R hR;by_cases e:i<a.length
 ·have hb:i<b.length:=by omega
  simp only[yO (show(i:Int)<(a.length:Int)by omega),yQ,yR];rw[ZAH e,ZAH hb]at hd;simp only[BL]at hd;simp only[A7 e,A7 hb];refine⟨⟨by omega,by omega⟩,⟨by omega,by omega⟩,?_⟩;unfold Ci at hd;by_cases h1:a[i]<b[i];·rw[yS h1,yP (by decide)]at hd;rw[yO h1];exact hd.symm
  ·rw[yP h1]at hd;rw[yV h1];refine⟨⟨by omega,by omega⟩,⟨by omega,by omega⟩,?_⟩;by_cases h2:b[i]<a[i];·rw[yS h2,yP (by decide)]at hd;rw[yO h2];exact hd.symm
   ·rw[yP h2,yS rfl]at hd;rw[yV h2];exact⟨⟨by omega,by omega⟩,hR e _ ⟨rfl,hd⟩⟩
 ·have :i=a.length:=by omega
  subst this;simp only[yY,yZ,yN];rw[ZA2,hl,ZA2]at hd;exact hd.symm
theorem EP.spec(l m:AT)(hp:EP.pre (l,m,())):EP.wp l m λr=>r=EP.fn (l,m,()):=by
 obtain⟨h1,h2⟩:=hp;simp only at h1 h2;simp only[EP.wp,ZAk];refine⟨⟨by simp;omega,by simp;omega⟩,⟨by simp;omega,by simp;omega⟩,⟨by simp;omega,by simp;omega⟩,⟨by simp;omega,by simp;omega⟩,?_,?_⟩;rotate_left;·trivial
 show(l.1++[l.2]).length=(m.1++[m.2]).length;simp[h1]
theorem UY:∀{a b:List Int}{x y:Int},a.length=b.length→BL (a++[x]) (b++[y])=if BL a b=0 then Ci x y else BL a b
 |[],[],x,y,_=>by
  simp only[ZAk,BL];by_cases h:Ci x y=0;·simp[h]
  ·simp[h]|[],_::_,x,y,h=>by simp at h|_::_,[],x,y,h=>by simp at h|u::a,v::b,x,y,h=>by
  simp only[ZA1,BL];by_cases h1:Ci u v=0;·simp only[h1,ZA4];exact UY (by simpa using h)
  ·simp only[yP h1]
theorem D3.spec(a b:O)(hp:D3.pre (a,b,())):D3.wp a b λr=>r=D3.fn (a,b,()):=by
 obtain⟨h1,h2⟩:=hp;simp only at h1 h2;simp only[D3.wp,DO.fn,FB.fn,EP.fn,D3.fn];refine⟨rfl,?_⟩;have e:C1 a b=if BL [CB a.1,a.2.1] [CB b.1,b.2.1]=0 then BL (a.2.2.1++[a.2.2.2]) (b.2.2.1++[b.2.2.2])else BL [CB a.1,a.2.1] [CB b.1,b.2.1]:=by
  rw[Qh,UY h1];have e2:BL [CB a.1,a.2.1] [CB b.1,b.2.1]=if Ci (CB a.1) (CB b.1)=0 then Ci a.2.1 b.2.1 else Ci (CB a.1) (CB b.1):=by
   have :=UY (a:=[CB a.1]) (b:=[CB b.1]) (x:=a.2.1) (y:=b.2.1) rfl;simp only[ZCc]at this;rw[this];have e3:BL [CB a.1] [CB b.1]=Ci (CB a.1) (CB b.1):=by
    simp only[BL];split;·rename_i h;exact h.symm
    ·rfl
   rw[e3]
  rw[e2];split;·split<;>rfl
  ·rfl
 by_cases h3:BL [CB a.1,a.2.1] [CB b.1,b.2.1]=0;·rw[yS h3]at e;simp only[h3,zJ,yN];exact⟨⟨h1,h2⟩,e.symm⟩
 ·rw[yP h3]at e;simp only[bne_iff_ne.2 h3,yR];exact e.symm
theorem ZX{c:O}:∀{l:List O}{j:Nat},(∀i,i<j→C1 (l.getD i U) c<0)→j≤l.length→DA c l=l.take j++DA c (l.drop j)|l,0,_,_=>by simp|[],j+1,_,h=>by simp at h|d::l,j+1,h,h2=>by have h0:=h 0 (by omega);simp at h0;simp only[DA,yS h0,ZCH,ZBW,ZA1];rw[ZX (l:=l) (j:=j) (λi hi=>by have :=h (i+1) (by omega);simpa using this) (by simpa using h2)]
theorem ZY(c:O):∀l:List O,(DA c l).length≤l.length+1
 |[]=>by simp[DA]|d::l=>by
  have :=ZY c l;simp only[DA];split;·simp only[yX];omega
  ·split;·simp
   ·simp
theorem uT{l:List O}{i:Nat}(h:i<l.length):Au (l.take (i+1))=DA (l.getD i U) (Au (l.take i)):=by rw[BN U h,Au,ZBF];rfl
theorem uR:∀(l:List O),(Au l).length≤l.length:=by
 have key:∀(l out:List O),(l.foldl (λout c=>DA c out) out).length≤out.length+l.length:=by intro l;induction l with|nil=>intro out;simp|cons c l ih=>intro out;have :=ih (DA c out);have :=ZY c out;simp only[ZAg,yX];omega
 intro l;have :=key l [];simpa[Au]using this
theorem uS(l:List O):∀x∈Au l,x∈l:=by
 have key:∀(l out:List O),∀x∈l.foldl (λout c=>DA c out) out,x∈l∨x∈out:=by intro l;induction l with|nil=>intro out x hx;exact .inr hx|cons c l ih=>
  intro out x hx;rcases ih _ x hx with h|h;·exact .inl (by simp[h])
  ·rcases N7.1 h with rfl|h;·exact .inl (by simp)
   ·exact .inr h
 intro x hx;exact(key l [] x hx).elim id (by simp)
theorem D8.spec(l:List O)(hp:D8.pre (l,())):D8.wp l λr=>r=D8.fn (l,()):=by
 obtain⟨hl,n,hn,hd⟩:=hp;simp only at hl hd;have hfn:D8.fn (l,())=Au l:=rfl;simp only[D8.wp,hfn,D3.fn,En.fn,ZAk];refine Lp.iter l.length (λi y=>y=((i:Int),Au (l.take i))) (by simp[Au]) ?_;rintro i y hle rfl R hR;by_cases e:i<l.length
 ·simp only[yO (show(i:Int)<(l.length:Int)by omega),yQ,yR];refine⟨⟨by omega,by omega⟩,?_⟩;have BJ:=uT e;have Du:=uR (l.take i);have hdc:(l.getD i U).2.2.1.length=n:=hd _ (AX e);have Tb:∀j,j<(Au (l.take i)).length→((Au (l.take i)).getD j U).2.2.1.length=n:=λj hj=>hd _ (zZ (uS _ _ (AX hj)));rw[zG]at Du;have hR':=hR e ((i:Int)+1,DA (l.getD i U) (Au (l.take i))) (by rw[BJ];rfl);clear hR BJ;refine Lp.iter (Au (l.take i)).length (λj y=>y=(j:Int)∧∀k,k<j→C1 ((Au (l.take i)).getD k U) (l.getD i U)<0) ⟨rfl,λk hk=>absurd hk (by omega)⟩ ?_;rintro j y Gt⟨rfl,hj⟩R' A8;have IH:=ZX hj Gt;simp only[yQ];by_cases e2:j<(Au (l.take i)).length
  ·have hds':=Tb j e2;simp only[yO (show(j:Int)<((Au (l.take i)).length:Int)by omega),ZBu];refine⟨λh=>⟨h,h,by omega,by omega⟩,λh=>⟨h,trivial⟩,λh=>⟨h,h,⟨hds'.trans hdc.symm,by show((Au (l.take i)).getD j U).2.2.1.length≤_;omega⟩⟩,λh=>⟨h,trivial⟩,λh=>h,?_⟩;rw[ZAH e2]at IH;by_cases h1:C1 ((Au (l.take i)).getD j U) (l.getD i U)<0
   ·simp only[yO h1,yR];refine⟨⟨by omega,by omega⟩,A8 e2 _ ⟨rfl,λk hk=>?_⟩⟩;by_cases ek:k=j;·subst ek;exact h1
    ·exact hj k (by omega)
   ·simp only[yV h1,yN];refine⟨λh=>⟨h,h,by omega,by omega⟩,λh=>⟨h,trivial⟩,λh=>⟨h,h,trivial⟩,λh=>h,?_⟩;rw[A7 e2]at h1;by_cases h2:(Au (l.take i)).getD j U=l.getD i U;·rw[yO h2];refine⟨⟨by omega,by omega⟩,?_⟩;rw[A7 e2]at h2;simp only[DA,yP h1,yS h2]at IH;rw[←ZAH e2,ZAx]at IH;rw[IH]at hR';exact hR'
    ·rw[yV h2];rw[A7 e2]at h2;simp only[DA,yP h1,yP h2]at IH;rw[←ZAH e2]at IH;refine⟨⟨by omega,by omega⟩,⟨by simp;omega,by simp;omega⟩,⟨by simp;omega,by simp;omega⟩,⟨by omega,by omega⟩,⟨by simp;omega,by simp;omega⟩,⟨by omega,by omega⟩,?_⟩;rw[IH]at hR';simpa using hR'
  ·have :j=(Au (l.take i)).length:=by omega
   subst this;simp only[yY,yZ,ZCQ,yN];refine⟨λh=>(by cases h),λh=>(by cases h),λh=>(by cases h),λh=>(by cases h),λh=>(by cases h),λh=>(by cases h),λh=>(by cases h),λh=>(by cases h),λh=>(by cases h),⟨by omega,by omega⟩,⟨by simp;omega,by simp;omega⟩,⟨by simp;omega,by simp;omega⟩,⟨by omega,by omega⟩,⟨by simp;omega,by simp;omega⟩,⟨by omega,by omega⟩,?_⟩;rw[ZA2]at IH⊢;simp only[DA]at IH;rw[IH]at hR';simpa using hR'
 ·have :i=l.length:=by omega
  subst this;simp only[yY,yZ,yN,zA]
theorem CK.spec(a b:List O)(hp:CK.pre (a,b,())):CK.wp a b λr=>r=CK.fn (a,b,()):=by obtain⟨h1,h2⟩:=hp;simp only at h1 h2;simp only[CK.wp,ZAk];exact⟨⟨by simp;omega,by simp;omega⟩,⟨by omega,by omega⟩,trivial⟩
theorem HX{α:Type}{l:List α}{d x:α}(h:x∈l):∃i,i<l.length∧l.getD i d=x:=by obtain⟨i,hi,rfl⟩:=List.mem_iff_getElem.1 h;exact⟨i,hi,A7 hi⟩
theorem Fj.spec(l:List (List O))(p:List O)(hl:l.length≤9223372036854775807):Fj.wp l p λr=>r=Fj.fn (l,p,()):=by
 have hfn:Fj.fn (l,p,())=decide (p∈l):=rfl;simp only[Fj.wp,hfn,D7.fn];refine Lp.iter l.length (λi y=>y=(i:Int)∧∀j,j<i→l.getD j []≠p) ⟨rfl,λj hj=>absurd hj (by omega)⟩ ?_;rintro i y hle⟨rfl,hi⟩R hR;by_cases e:i<l.length
 ·simp only[yO (show(i:Int)<(l.length:Int)by omega),yQ,yR];refine⟨⟨by omega,by omega⟩,?_⟩;by_cases h:l.getD i []=p;·rw[yO h];exact(yO (h▸AX e)).symm
  ·rw[yV h];refine⟨⟨by omega,by omega⟩,hR e _ ⟨rfl,λj hj=>?_⟩⟩;by_cases ej:j=i;·subst ej;exact h
   ·exact hi j (by omega)
 ·have :i=l.length:=by omega
  subst this;simp only[yY,yZ,yN];refine(yV λhm=>?_).symm;obtain⟨j,hj,h⟩:=HX (d:=[]) hm;exact hi j hj h
theorem tV{out out':List (List O)}{p:List O}(h:Gd out p=some out'):out.length≤out'.length∧out'.length≤out.length+1:=by
 unfold Gd at h;split at h;·cases h
 ·split at h;·cases h;omega
  ·cases h;simp
theorem VL:∀{l out out':List (List O)},l.foldlM Gd out=some out'→out.length≤out'.length∧out'.length≤out.length+l.length|[],out,out',h=>by cases h;simp|p::l,out,out',h=>by simp only[zQ,ZAE,ZAB]at h;obtain⟨s,h1,h2⟩:=h;have :=tV h1;have :=VL h2;simp only[yX];omega
theorem D6.spec(l:List (List O))(hp:D6.pre (l,())):D6.wp l λr=>r=D6.fn (l,()):=by
 obtain⟨hl,hd⟩:=hp;simp only at hl hd;have hfn:D6.fn (l,())=match l.foldlM Gd []with|none=>([],3)|some out=>(out,0):=rfl;simp only[D6.wp,hfn,Ce.fn,Fj.fn];refine Lp.foldO l [] Gd [] (by omega) ?_ ?_
 ·intro i out R e e2 hf ht BA A8;have Du:=(VL ht).2;simp only[zF,zG]at Du;simp only[yO e2,yQ,yR];refine⟨⟨by omega,by omega⟩,hd _ (AX e),?_⟩;simp only[Gd]at BA A8;by_cases h0:(Aa (l.getD i [])).2.2=0
  ·rw[yP λh=>h h0]at BA;simp only[h0,zJ,yN];refine⟨λh=>⟨h,h,trivial⟩,λh=>⟨h,trivial⟩,λh=>h,?_⟩;have hb:(!(Aa (l.getD i [])).2.1&&!decide ((Aa (l.getD i [])).1∈out))=!decide ((Aa (l.getD i [])).2.1=true∨(Aa (l.getD i [])).1∈out):=by cases(Aa (l.getD i [])).2.1<;>simp
   rw[hb];by_cases h1:(Aa (l.getD i [])).2.1=true∨(Aa (l.getD i [])).1∈out;·rw[yS h1]at BA;rw[yO h1];exact⟨hf,BA _ rfl⟩
   ·rw[yP h1]at BA;rw[yV h1];exact⟨⟨by simp;omega,by simp;omega⟩,hf,BA _ rfl⟩
  ·simp only[bne_iff_ne.2 h0,yR];rw[A8 (yS h0),((RA _).resolve_left h0).1]
 ·intro out R ht;simp only[yY,yZ,yN];rw[ht]
theorem Vj:∀(l out:List (List O)),out.length≤400→l.foldlM BB out=(l.foldlM Gd out).bind λo=>if 400<o.length then none else some o
 |[],out,h=>by show some out=if 400<out.length then none else some out;rw[yP (by omega)]|p::l,out,h=>by
  rw[zQ,zQ];by_cases h0:(Aa p).2.2=0
  ·by_cases h1:(Aa p).2.1=true∨(Aa p).1∈out;·have e1:BB out p=some out:=(yP λh=>h h0).trans (yS h1);have e2:Gd out p=some out:=(yP λh=>h h0).trans (yS h1);rw[e1,e2];exact Vj l out h
   ·have e2:Gd out p=some (out++[(Aa p).1]):=(yP λh=>h h0).trans (yP h1);by_cases h2:400<out.length+1
    ·have e1:BB out p=none:=(yP λh=>h h0).trans ((yP h1).trans (yS h2));rw[e1,e2];show none=(l.foldlM Gd (out++[(Aa p).1])).bind _;rcases Co (l.foldlM Gd (out++[(Aa p).1]))with h3|⟨o,h3⟩;·rw[h3];rfl
     ·rw[h3];have :=(VL h3).1;simp only[yU,yX,zF]at this;exact(yS (by omega)).symm
    ·have e1:BB out p=some (out++[(Aa p).1]):=(yP λh=>h h0).trans ((yP h1).trans (yP h2));rw[e1,e2];exact Vj l _ (by simp;omega)
  ·have e1:BB out p=none:=yS h0;have e2:Gd out p=none:=yS h0;rw[e1,e2];rfl
theorem Bu.spec(n:Int)(l:List (List O))(hp:Bu.pre (n,l,())):Bu.wp n l λr=>r=Bu.fn (n,l,()):=by
 have hfn:Bu.fn (n,l,())=CW n (l.foldlM BB []):=rfl;simp only[Bu.wp,hfn,D6.fn];refine⟨hp,λh=>⟨h,trivial⟩,λh=>⟨h,trivial⟩,λh=>by rw[h];rfl,?_⟩;rw[Vj l [] (by simp)];rcases Co (l.foldlM Gd [])with h3|⟨o,h3⟩
 ·have Nx:OT l=([],3):=by unfold OT;rw[h3]
  simp only[Nx,h3];rfl
 ·have Nx:OT l=(o,0):=by unfold OT;rw[h3]
  simp only[Nx,h3];by_cases h:400<o.length;·simp only[zJ,ZBC,yO (show(400:Int)<(o.length:Int)by omega),yR,ZAv,yS h];rfl
  ·simp only[zJ,ZBC,yV (show¬(400:Int)<(o.length:Int)by omega),yN,ZAv,yP h];rfl
theorem AD.D{s:AG}(h:AD s=true){p:List O}(hp:p∈s.2):A2 p∧Am p s.1.toNat:=⟨AD.B h hp,λc hc=>by obtain⟨h0,_,_,h4⟩:=AD.b h;have :=((h4 p hp).2 c hc).2;omega⟩
theorem EQ.spec(x:AG):EQ.wp x λr=>r=EQ.fn (x,()):=by have hfn:EQ.fn (x,())=A1 x:=rfl;simp only[EQ.wp,Bl.fn,Bu.fn,hfn];cases hv:AD x with|false=>simp[A1,hv]|true=>have :=(AD.b hv).2.2.1;refine⟨⟨by simp only;omega,λp hp=>⟨AD.B hv hp,_,(AD.D hv hp).2⟩⟩,?_⟩;simp[A1,hv]
theorem Fo.spec(x y:AG):Fo.wp x y λr=>r=Fo.fn (x,y,()):=by
 have hfn:Fo.fn (x,y,())=Er x y:=rfl;simp only[Fo.wp,D5.fn,Bu.fn,hfn,ZAk];by_cases he:Dn x y=0
 ·obtain⟨hx,hy,MN⟩:=Mv he;have h1:=(AD.b hx).2.2.1;have h2:=(AD.b hy).2.2.1;simp only[he,zJ,yN];refine⟨⟨by simp;omega,by simp;omega⟩,⟨by omega,by omega⟩,⟨by simp only[yU];omega,λp hp=>?_⟩,by simp[Er,he]⟩;rcases List.mem_append.1 hp with hp|hp;·exact⟨AD.B hx hp,_,(AD.D hx hp).2⟩
  ·exact⟨AD.B hy hp,_,(AD.D hy hp).2⟩
 ·rw[bne_iff_ne.2 he];simp[Er,he]
theorem O6{p q:List O}{n:Nat}(hp:p.length≤96∧∀c∈p,AJ c=true)(hq:q.length≤96∧∀c∈q,AJ c=true)(h1:Am p n)(h2:Am q n):OS (p++q):=⟨⟨by simp only[yU];omega,λc hc=>(List.mem_append.1 hc).elim (λh=>AJ.condB (hp.2 c h)) λh=>AJ.condB (hq.2 c h)⟩,n,λc hc=>(List.mem_append.1 hc).elim (h1 c) (h2 c)⟩
theorem Fk.spec(x y:AG):Fk.wp x y λr=>r=Fk.fn (x,y,()):=by
 have hfn:Fk.fn (x,y,())=Ef x y:=rfl;simp only[Fk.wp,D5.fn,Bu.fn,CK.fn,hfn];by_cases he:Dn x y=0
 ·obtain⟨hx,hy,MN⟩:=Mv he;have h1:=(AD.b hx).2.2.1;have h2:=(AD.b hy).2.2.1;simp only[he,zJ,yN];have FQ:∀l:List (List O),(EO l y.2).length=l.length*y.2.length:=λl=>by induction l with|nil=>simp[EO]|cons p l ih=>have :EO (p::l) y.2=(y.2.map λq=>p++q)++EO l y.2:=rfl;rw[this,yU,ih,zL,yX,ZAd];omega
  have hsn:∀(l:List (List O))p,EO (l++[p]) y.2=EO l y.2++y.2.map λq=>p++q:=λl p=>by simp[EO]
  refine Lp.iter x.2.length (λi z=>z=((i:Int),EO (x.2.take i) y.2)) (by simp[EO]) ?_;rintro i z hle rfl R hR;by_cases e:i<x.2.length
  ·simp only[yO (show(i:Int)<(x.2.length:Int)by omega),yQ,yR];refine⟨⟨by omega,by omega⟩,?_⟩;have Y7:=AD.piece hx (AX (d:=[]) e);have TS:=FQ (x.2.take i);have hb2:(x.2.take i).length*y.2.length≤400*400:=ZCS (by simp;omega) h2;refine Lp.iter y.2.length (λj z=>z=((j:Int),EO (x.2.take i) y.2++(y.2.take j).map λq=>x.2.getD i []++q)) (by simp) ?_;rintro j z Gt rfl R' hR';by_cases e2:j<y.2.length;·simp only[yO (show(j:Int)<(y.2.length:Int)by omega),yQ,yR];have Y8:=AD.piece hy (AX (d:=[]) e2);refine⟨⟨by omega,by omega⟩,⟨by show(x.2.getD i []).length≤_;omega,by show(y.2.getD j []).length≤_;omega⟩,⟨by simp only[yU,zL,zG,yX,zF];omega,by simp only[yU,zL,zG,yX,zF];omega⟩,⟨by omega,by omega⟩,hR' e2 _ ?_⟩;rw[BN [] e2,ZAa];exact zX (Prod.mk ((j:Int)+1)) (ZAO _ _ _)
   ·have :j=y.2.length:=by omega
    subst this;simp only[yY,yZ,yN,zA];refine⟨⟨by omega,by omega⟩,hR e _ ?_⟩;rw[BN [] e,hsn];rfl
  ·have :i=x.2.length:=by omega
   subst this;simp only[yY,yZ,yN,zA];refine⟨⟨?_,λp hp=>?_⟩,by simp[Ef,he]⟩;·have hb2:x.2.length*y.2.length≤400*400:=ZCS h1 h2;have :=FQ x.2;simp only;omega
   ·simp only[EO,ZBa,ZAb]at hp;obtain⟨p,hp,q,hq,rfl⟩:=hp;refine O6 (AD.piece hx hp) (AD.piece hy hq) (AD.D hx hp).2 ?_;rw[MN];exact(AD.D hy hq).2
 ·rw[bne_iff_ne.2 he];simp[Ef,he]
theorem Fm.spec(p:List O)(n:Int):Fm.wp p n λr=>r=Fm.fn (p,n,()):=by
 have hfn:Fm.fn (p,n,())=Ia p n:=rfl;simp only[Fm.wp,hfn,C2.fn,Ce.fn];refine⟨λh=>⟨h,trivial⟩,λh=>by rw[h];rfl,?_⟩;by_cases h1:n<0∨12<n
 ·have :(decide (n<0)||decide (12<n))=true:=by simpa using h1
  rw[this];simp[Ia,h1]
 ·have :(decide (n<0)||decide (12<n))=false:=by rw[ZAX]at h1;simp[h1]
  rw[this];have hs:Ia p n=if 384<p.length then([],false,3)else if p.any λc=>!AJ c then([],false,1)else if DN p n=false then([],false,2)else Aa p:=by unfold Ia;exact yP h1
  simp only[yN];by_cases h2:384<p.length;·rw[yO (show(384:Int)<(p.length:Int)by omega)];rw[hs,yS h2];rfl
  ·rw[yV (show¬(384:Int)<(p.length:Int)by omega)];rw[yP h2]at hs;refine Lp.iter p.length (λi y=>y=((i:Int),if(p.take i).all λc=>((c.2.2.1.length:Nat):Int)==n=true then(0:Int)else 2)∧(p.take i).all AJ=true) ⟨by simp,by simp⟩ ?_;rintro i y hle⟨rfl,hv⟩R hR;by_cases e:i<p.length
   ·have C9:=BN U e;simp only[yO (show(i:Int)<(p.length:Int)by omega),yQ,yR];refine⟨⟨by omega,by omega⟩,?_⟩;by_cases h3:AJ (p.getD i U)=true
    ·simp only[h3,zU,yN];have hv':(p.take (i+1)).all AJ=true:=by rw[C9,ZBx,hv];simp only[ZCC,ZCj,h3];rfl
     by_cases h4:(((p.getD i U).2.2.1.length:Nat):Int)=n;·simp only[bne_eq_false_iff_eq.2 h4,yN];refine⟨⟨by omega,by omega⟩,hR e _ ⟨?_,hv'⟩⟩;rw[C9,ZBx];simp only[ZCC,ZCj,beq_iff_eq.2 h4,ZBt];rfl
     ·simp only[bne_iff_ne.2 h4,yR];refine⟨⟨by omega,by omega⟩,hR e _ ⟨?_,hv'⟩⟩;rw[C9,ZBx];simp only[ZCC,ZCj,beq_eq_false_iff_ne.2 h4,ZBt,ZB7,zY,ZAY];rfl
    ·rw[ZA9]at h3;simp only[h3,ZAu,yR];rw[hs,yS (List.any_eq_true.2 ⟨_,AX (d:=U) e,by rw[h3];rfl⟩)]
   ·have :i=p.length:=by omega
    subst this;rw[zA]at hv⊢;simp only[yY,yZ,yN];have Ke:p.any (λc=>!AJ c)=false:=by rw[ZB4];intro c hc;rw[List.all_eq_true.1 hv c hc];simp
    rw[Ke]at hs;simp only[zY,ZAY]at hs;have ho:DN p n=p.all λc=>((c.2.2.1.length:Nat):Int)==n:=by
     unfold DN;rw[ZAc,ZAP,ZAP];constructor;·intro h c hc;have :=h c hc;simp only[zN]at this;exact this.2
     ·intro h c hc;rw[List.all_eq_true.1 hv c hc,h c hc];rfl
    by_cases h5:p.all λc=>((c.2.2.1.length:Nat):Int)==n=true;·rw[ho,h5]at hs;simp only[h5,ZA4,zJ,yN];simp only[ZBG,ZAY]at hs;refine⟨⟨⟨(by omega:p.length≤1048576),λc hc=>AJ.condB (List.all_eq_true.1 hv c hc)⟩,n.toNat,λc hc=>?_⟩,hs.symm⟩;have :=List.all_eq_true.1 h5 c hc;rw[ZB0]at this;omega
    ·rw[ho]at hs;simp only[yP h5];rw[ZA9]at h5;rw[h5]at hs;exact hs.symm
theorem Xu{g:Nat}(hg:0<g):∀{l:List Int}{s:Int},s=g∨s=-(g:Int)→(∀n∈l,g∣n.natAbs)→∀a:Nat,(l.map (·.tdiv s)).foldl (λg n=>Nat.gcd g n.natAbs) a*g=l.foldl (λg n=>Nat.gcd g n.natAbs) (a*g)
 |[],s,_,_,a=>rfl|n::l,s,hs,h,a=>by
  simp only[ZAK,ZAg];rw[Xu hg hs λm hm=>h m (by simp[hm])];congr 1;have h1:=h n (by simp);have h2:(n.tdiv s).natAbs=n.natAbs/g:=by rw[Int.natAbs_tdiv];rcases hs with rfl|rfl<;>(simp;rfl)
  rw[h2,←Nat.gcd_mul_right,Nat.div_mul_cancel h1]
theorem X0{l:List Int}{s:Int}(hg:AO l≠0)(hs:s=AO l∨s=-(AO l:Int)):AO (l.map (·.tdiv s))=1:=by
 have h:=Xu (g:=AO l) (by omega) (l:=l) hs (NL (l:=l) (g:=0)).2 0;rw[ZCP]at h;have h2:AO (l.map (·.tdiv s))*AO l=1*AO l:=by rw[Nat.one_mul];exact h
 exact Nat.eq_of_mul_eq_mul_right (by omega) h2
theorem Xi{g:Nat}(hg:0<g):∀{l:List Int},(∀n∈l,g∣n.natAbs)→Ct (l.map (·.tdiv (g:Int)))=Ct l∧(Ct l=true→Ct (l.map (·.tdiv (-(g:Int))))=false)
 |[],_=>⟨rfl,λh=>by cases h⟩|n::l,h=>by
  obtain⟨ih1,ih2⟩:=Xi hg (l:=l) λm hm=>h m (by simp[hm]);obtain⟨k,hk⟩:=h n (by simp);simp only[ZAK,Ct,ZDk];by_cases h0:n=0;·subst h0;simp only[Int.zero_tdiv,ZA4,Int.neg_zero];refine⟨ih1,λhf=>?_⟩;have :=ih2 hf;simpa only[ZDk]using this
  ·have GP:k≠0:=λe=>by subst e;simp at hk;exact h0 hk
   have hq:n.tdiv g=k∧0<n∨n.tdiv g=-(k:Int)∧n<0:=by
    have e1:((g:Int)*k).tdiv g=k:=by rw[ZCK];exact Int.mul_tdiv_cancel _ (by omega)
    have e2:((g*k:Nat):Int)=(g:Int)*k:=ZCg _ _;rcases Int.lt_or_gt_of_ne h0 with h1|h1
    ·refine .inr ⟨?_,h1⟩;have :n=-((g:Int)*k):=by omega
     rw[this,Int.neg_tdiv,e1]
    ·refine .inl ⟨?_,h1⟩;have :n=(g:Int)*k:=by omega
     rw[this,e1]
   have oS:n.tdiv g≠0:=by omega
   have hq1:-n.tdiv g≠0:=by omega
   rw[yP h0,yP oS,yP hq1];constructor;·exact decide_eq_decide.2 (by omega)
   ·intro h;simp only[ZAp]at h;exact yV (by omega)
def Ji(n:Nat)(c:O):Prop:=c.2.2.1.length=n∧(c.1≠2→AO c.2.2.1=1)∧(c.1=1→Ct c.2.2.1=false)
theorem XX{c:O}(h0:(Bt c).2=0):Ji c.2.2.1.length (Bt c).1∧(Bt c).1.1=1:=by
 have hs:∀b,(Cs b).2≠0:=λb=>by cases b<;>simp[Cs]
 unfold Bt at h0⊢;by_cases hg:AO c.2.2.1=0∨c.2.2.2.tmod (AO c.2.2.1)≠0;·rw[yS hg]at h0;exact absurd h0 (hs _)
 ·rw[yP hg];rw[ZAX]at hg;have hd:=(NL (l:=c.2.2.1) (g:=0)).2;have he:Bo c=(AO c.2.2.1:Int)∨Bo c=-(AO c.2.2.1:Int):=by unfold Bo;split<;>simp
  refine⟨⟨by simp,λ_=>X0 hg.1 he,λ_=>?_⟩,rfl⟩;obtain⟨h1,h2⟩:=Xi (g:=AO c.2.2.1) (by omega) hd;show Ct (c.2.2.1.map (·.tdiv (Bo c)))=false;unfold Bo;cases hf:Ct c.2.2.1 with|true=>simp only[ZA4];exact h2 hf|false=>simp only[zY,ZAY];rw[h1,hf]
theorem VD{c:O}(h:condB c)(h0:(AV c).2=0):Ji c.2.2.1.length (AV c).1∧(AV c).1.1=c.1:=by
 obtain⟨hk,_⟩:=h;have hs:∀b,(Cs b).2≠0:=λb=>by cases b<;>simp[Cs]
 rcases hk with hk|hk|⟨hk,Dd,HI⟩
 ·have hr:AV c=FM c:=by simp[AV,hk]
  rw[hr]at h0⊢;unfold FM at h0⊢;by_cases hg:AO c.2.2.1=0;·rw[yS hg]at h0;exact absurd h0 (hs _)
  ·rw[yP hg,hk];exact⟨⟨by simp,λ_=>X0 hg (.inl rfl),λh=>by cases h⟩,rfl⟩
 ·have hr:AV c=Bt c:=by simp[AV,hk]
  rw[hr]at h0⊢;rw[hk];exact XX h0
 ·have hr:AV c=EJ c:=by simp[AV,hk]
  rw[hr]at h0⊢;unfold EJ at h0⊢;split at h0;·exact absurd h0 (hs _)
  split at h0;·exact absurd h0 (hs _)
  rename_i ha hb;rw[yP ha,yP hb,hk];exact⟨⟨by simp,λh=>absurd rfl h,λh=>by cases h⟩,rfl⟩
theorem tmod_one(n:Int):n.tmod 1=0:=by rw[Int.tmod_eq_zero_of_dvd];exact Int.one_dvd _
theorem Xb{n:Nat}{c:O}(h:Ji n c)(h0:c.1=0):(AV (1,0,c.2.2)).2=0∧Ji n (AV (1,0,c.2.2)).1∧(AV (1,0,c.2.2)).1.1=1:=by
 have hg:=h.2.1 (by omega);have hr:AV (1,0,c.2.2)=Bt (1,0,c.2.2):=rfl;have hz:(Bt (1,0,c.2.2)).2=0:=by
  unfold Bt;have :¬(AO c.2.2.1=0∨c.2.2.2.tmod (AO c.2.2.1)≠0):=by
   rw[hg];rintro(h|h);·omega
   ·exact h (tmod_one _)
  show(if AO c.2.2.1=0∨c.2.2.2.tmod (AO c.2.2.1)≠0 then _ else _:O×Int).2=0;rw[yP this]
 rw[hr];have :=XX hz;rw[show((1,0,c.2.2):O).2.2.1.length=n from h.1]at this;exact⟨hz,this⟩
theorem bN{p:List O}{n:Nat}(h:A2 p)(hd:Am p n):∀c∈Ai p,Ji n c:=by intro c hc;simp only[Ai,ZAb,ZBy]at hc;obtain⟨r,⟨⟨d,Ev,rfl⟩,hr⟩,rfl⟩:=hc;have :=(VD (h.2 d Ev) (by simpa using hr)).1;rwa[hd d Ev]at this
theorem vT{p:List O}{n:Nat}(h:A2 p)(hd:Am p n):∀c∈(Aa p).1,Ji n c:=dF (P:=Ji n) (λd c hd hc=>hd) (λc h0 hc=>(Xb hc h0).2.1) h (bN h hd)
theorem dG{p:List O}{n:Nat}(h:A2 p)(hd:Am p n):Am (Aa p).1 n:=λc hc=>(vT h hd c hc).1
theorem vP{out out':List (List O)}{p:List O}{n:Nat}(h:BB out p=some out')(hl:∀q∈out,Am q n)(hp:A2 p)(hd:Am p n):∀q∈out',Am q n:=by
 unfold BB at h;split at h;·cases h
 ·split at h;·cases h;exact hl
  ·split at h;·cases h
   ·cases h;intro q hq;rcases List.mem_append.1 hq with hq|hq;·exact hl q hq
    ·simp only[zC]at hq;subst hq;exact dG hp hd
theorem Om{n:Nat}:∀{l:List (List O)}{out out':List (List O)},l.foldlM BB out=some out'→(∀q∈out,Am q n)→(∀p∈l,A2 p∧Am p n)→∀q∈out',Am q n|[],out,out',h,hl,_=>by cases h;exact hl|p::l,out,out',h,hl,hb=>by simp only[zQ,ZAE,ZAB]at h;obtain⟨s,h1,h2⟩:=h;have h3:=hb p (by simp);exact Om h2 (vP h1 hl h3.1 h3.2) λq hq=>hb q (by simp[hq])
theorem Ur{x:AG}(hx:AD x=true)(h:(A1 x).2=0):∀q∈(A1 x).1.2,Am q x.1.toNat:=by
 unfold A1 at h⊢;rw[yP (by rw[hx];simp)]at h⊢;unfold CW at h⊢;rcases Co (B7 x.2)with ho|⟨out,ho⟩;·rw[ho]at h;cases h
 ·rw[ho];exact Om ho (by simp) λp hp=>AD.D hx hp
theorem sH{c o:O}(h:o∈Bh c):o.2.2.1.length=c.2.2.1.length:=by
 unfold Bh at h;split at h;·simp only[zC]at h;subst h;simp[GX]
 ·split at h
  ·simp only[zO,ZBo,ZCY]at h;rcases h with rfl|rfl;·rfl
   ·simp[GX]
  ·obtain⟨r,_,rfl⟩:=List.mem_map.1 h;rfl
theorem aL{n:Nat}:∀{l out out':List O},l.foldlM (E7 n) out=some out'→Am out n→(∀c∈l,condB c∧c.2.2.1.length=n)→Am out' n
 |[],out,out',h,h1,_=>by cases h;exact h1|c::l,out,out',h,h1,hb=>by
  simp only[zQ,ZAE,ZAB]at h;obtain⟨s,h2,h3⟩:=h;refine aL h3 ?_ λd hd=>hb d (by simp[hd]);have key:∀x:O,x.2.2.1.length=n→Am (out++[x]) n:=λx hx d hd=>by
   rcases List.mem_append.1 hd with hd|hd;·exact h1 d hd
   ·simp only[zC]at hd;subst hd;exact hx
  obtain⟨mW,hcl⟩:=hb c (by simp);unfold E7 at h2;split at h2;·cases h2
  ·rename_i he;split at h2;·cases h2;exact key _ (by simp)
   ·split at h2;·cases h2;exact h1
    ·cases h2;refine key _ ?_;have he':(Cb c).2.2=0:=by omega
     have hs:(Cb c).2.1=0:=by omega
     unfold Cb at he' hs⊢;split at he';·cases he'
     ·rename_i h5;rw[yP h5]at hs⊢;have :=(VD mW hs).1.1;exact this.trans hcl
theorem rY{c:O}(hv:AJ c=true):Am (B4 c).1 c.2.2.1.length:=by
 unfold B4;rw[yP (by rw[hv];simp)];rcases Co ((Bh c).foldlM (E7 c.2.2.1.length) [])with h|⟨out,h⟩;·rw[h];intro d hd;simp at hd
 ·rw[h];simp only;split;·intro d hd;simp at hd
  ·exact aL h (by intro d hd;simp at hd) λo ho=>⟨Ut hv o ho,sH ho⟩
theorem Cp.spec(a:Int)(l:AT)(b:Int)(m:AT)(hp:Cp.pre (a,l,b,m,())):Cp.wp a l b m λr=>r=Cp.fn (a,l,b,m,()):=by
 obtain⟨ha,⟨II,Ly,MA⟩,hb,⟨Dd,HI,QA⟩,he⟩:=hp;simp only at ha II Ly MA hb Dd HI QA he;have key:∀x y:Int,-1048576≤x∧x≤1048576→-4294967296≤y∧y≤4294967296→-4503599627370496≤x*y∧x*y≤4503599627370496:=λx y hx hy=>QY (n:=1048576) (m:=4294967296) (by omega) (by omega) hx.1 hx.2 hy.1 hy.2;have k1:=key a l.2 ha MA;have k2:=key b m.2 hb QA;have hfn:Cp.fn (a,l,b,m,())=OJ a l b m:=rfl;simp only[Cp.wp,yQ,hfn];unfold OJ;refine⟨⟨by omega,by omega,by omega,by omega⟩,⟨by omega,by omega⟩,⟨by omega,by omega⟩,⟨by omega,by omega⟩,?_⟩;have F3:(List.range l.1.length).length=l.1.length:=by simp
 have hF:=Lp.fill (body:=λ(y5:Int×List Int)R5=>let v2:=List.getD l.1 (Int.toNat y5.1) (0:Int);let v3:=List.getD m.1 (Int.toNat y5.1) (0:Int);cond (decide (y5.1<((List.length l.1:Nat):Int))) (((0:Int)≤y5.1∧y5.1<((List.length l.1:Nat):Int))∧AB IntKind.i64 (a*v2)∧((0:Int)≤y5.1∧y5.1<((List.length m.1:Nat):Int))∧AB IntKind.i64 (b*v3)∧AB IntKind.i64 ( a*v2+b*v3)∧((0:Int)≤y5.1∧y5.1<((List.length y5.2:Nat):Int))∧Int.toNat y5.1<List.length y5.2∧AB IntKind.i64 (y5.1+(1:Int))∧R5 ( y5.1+(1:Int),List.set y5.2 (Int.toNat y5.1) ( a*v2+b*v3))) (((y5.2,a*l.2+b*m.2):AT)=((List.range l.1.length).map λi=>a*l.1.getD i 0+b*m.1.getD i 0,a*l.2+b*m.2))) (List.range l.1.length) 0 0 (λi=>a*l.1.getD i 0+b*m.1.getD i 0) (by omega) (λi out R hi hi' hf ho hR=>?_) λR=>?_;·rw[F3]at hF;exact hF
 ·rw[F3]at hi hi' ho;rw[VC hi]at hR;have k3:=key a _ ha (Ly _ (AX (d:=0) hi));have k4:=key b _ hb (HI _ (AX (d:=0) (show i<m.1.length by omega)));simp only[yO hi',yQ,yR];exact⟨⟨by omega,by omega⟩,⟨by omega,by omega⟩,⟨by omega,by omega⟩,⟨by omega,by omega⟩,⟨by omega,by omega⟩,⟨by omega,by omega⟩,by omega,hf,hR⟩
 ·rw[F3];simp only[yY,yZ,yN]
theorem rT(a:Int)(l:AT)(b k:Int):OJ a l b (List.replicate l.1.length 0,k)=(l.1.map λn=>a*n,a*l.2+b*k):=by unfold OJ;congr 1;apply List.ext_getElem (by simp);intro i h1 h2;simp only[zL,ZB5]at h1;simp only[List.getElem_map,List.getElem_range];rw[A7 h1,A7 (by simpa using h1)];simp
theorem Fr.of{σ:Type}{K:σ→Prop}{body:(σ→Prop)→Prop}{P:σ→Prop}(hK:∀y,P y→K y)(hb:∀R:σ→Prop,(∀y,P y→R y)→body R):Fr K body:=hb K hK
theorem Fh.spec(c:O):Fh.wp c λr=>r=Fh.fn (c,()):=by have hfn:Fh.fn (c,())=B4 c:=rfl;simp only[Fh.wp,C2.fn,hfn,yQ,Cp.fn,rT,BM.fn];cases hv:AJ c with|false=>simp[B4,hv]|true=>
 simp only[zU,yN];have hl:=BI.b (AJ.lin hv);have Du:=aW hv;have Cu:=Ut hv;have hpre:∀a b:Int,-1048576≤a∧a≤1048576→-1048576≤b∧b≤1048576→Cp.pre (a,c.2.2,b,(List.replicate c.2.2.1.length 0,1),()):=λa b ha hb=>⟨ha,⟨by show c.2.2.1.length≤_;omega,λn hn=>by have :=hl.2.1 n hn;omega,by show-4294967296≤c.2.2.2;omega,by show c.2.2.2≤4294967296;omega⟩,hb,⟨by show(List.replicate c.2.2.1.length (0:Int)).length≤_;simp;omega,λn hn=>by rw[(List.mem_replicate.1 hn).2];omega,by show(-4294967296:Int)≤1;omega,by show(1:Int)≤4294967296;omega⟩,by simp⟩;have EM:B4 c=match(Bh c).foldlM (E7 c.2.2.1.length) []with|none=>([],3)|some out=>if 400<out.length then([],3)else(out,0):=by unfold B4;exact yP (by rw[hv];simp)
 refine⟨⟨by omega,by omega,by omega,by omega⟩,Fr.of (P:=λy=>y.1=Bh c) ?_ ?_⟩
 ·rintro⟨L,b1,b2,k⟩hL;simp only at hL;subst hL;refine Lp.foldO (Bh c) U (E7 c.2.2.1.length) [] (by omega) (λi t R hi hi' hf ht hR hn=>?_) λt R ht=>?_
  ·have Iz:t.length≤512:=by have :=Pl (λ_ _ _ h=>aO h) _ _ _ ht;simp only[zG,zF]at this;omega
   have A9:=AX (d:=U) hi;simp only[yO hi',yQ,yR];refine⟨⟨by omega,hi'⟩,Cu _ A9,?_⟩;have BJ:=bM ((Bh c).getD i U);have hmk:Cb ((Bh c).getD i U)=if(AV ((Bh c).getD i U)).2=0∧AJ (AV ((Bh c).getD i U)).1=false then(U,0,3)else((AV ((Bh c).getD i U)).1,(AV ((Bh c).getD i U)).2,0):=rfl;have HN:E7 c.2.2.1.length t ((Bh c).getD i U)=if(Cb ((Bh c).getD i U)).2.2≠0 then none else if 0<(Cb ((Bh c).getD i U)).2.1 then some (t++[(0,0,List.replicate c.2.2.1.length 0,0)])else if(Cb ((Bh c).getD i U)).2.1<0 then some t else some (t++[(Cb ((Bh c).getD i U)).1]):=rfl;generalize hr:AV ((Bh c).getD i U)=r at*;obtain⟨rc,rs⟩:=r;simp only at BJ HN hmk;rcases BJ with rfl|rfl|rfl;·simp only[ZAG,show((0:Int)==1)=false from rfl,yN,ZBu];refine⟨λh=>⟨h,trivial⟩,λh=>⟨h,trivial⟩,λh=>h,?_⟩;cases ZJ:AJ rc with|false=>rw[hmk.trans (yS ⟨rfl,ZJ⟩)]at HN;simp only[ZAu,yR];rw[EM,hn (by rw[HN];rfl)]|true=>rw[hmk.trans (yP (by rw[ZJ];simp))]at HN;simp only[zU,yN,yR];exact⟨⟨by simp;omega,by simp;omega⟩,hf,hR _ (by rw[HN];rfl)⟩
   ·rw[hmk.trans (yP (by simp))]at HN;simp only[ZAG,yR];exact⟨⟨by simp;omega,by simp;omega⟩,hf,hR _ (by rw[HN];rfl)⟩
   ·rw[hmk.trans (yP (by simp))]at HN;simp only[show((-1:Int)==1)=false from rfl,show((-1:Int)==0)=false from rfl,yN,ZCQ];exact⟨λh=>(by cases h),λh=>(by cases h),λh=>(by cases h),hf,hR _ (by rw[HN];rfl)⟩
  ·simp only[yY,yZ,yN];rw[EM,ht];simp only;by_cases h4:400<t.length;·rw[yS h4,yO (show(400:Int)<(t.length:Int)by omega)];rfl
   ·rw[yP h4,yV (show¬(400:Int)<(t.length:Int)by omega)];rfl
 ·intro R hR;have hk:=AJ.kind hv;have h1:(c.2.2.1.map λn=>(-1:Int)*n)=c.2.2.1.map λn=>-n:=ZAw λn _=>by omega
  have h2:(c.2.2.1.map λn=>(1:Int)*n)=c.2.2.1:=MT _;by_cases k0:c.1=0;·simp only[k0,ZAG,yR];refine⟨hpre _ _ (by omega) (by omega),hR _ ?_⟩;simp only[Bh,k0,ZA4,GX,h1];rw[show(-1:Int)*c.2.2.2+-1*1=-1-c.2.2.2 by omega]
  ·by_cases k1:c.1=1;·simp only[k1,show((1:Int)==0)=false from rfl,ZAG,yR,yN];refine⟨hpre _ _ (by omega) (by omega),hpre _ _ (by omega) (by omega),hR _ ?_⟩;simp only[Bh,k1,show(1:Int)≠0 by decide,ZA4,ZAY,GX,h1,h2];rw[show(-1:Int)*c.2.2.2+-1*1=-1-c.2.2.2 by omega,show(1:Int)*c.2.2.2+-1*1=c.2.2.2-1 by omega]
   ·simp only[beq_eq_false_iff_ne.2 k0,beq_eq_false_iff_ne.2 k1,yN];have ho:Bh c=(List.range (c.2.1-1).toNat).map λ(r:Nat)=>((2,c.2.1,c.2.2.1,c.2.2.2-((r:Int)+1)):O):=by unfold Bh;rw[yP k0,yP k1]
    have hm:1≤c.2.1∧c.2.1≤512:=by omega
    refine Lp.iter (c.2.1-1).toNat (λi y=>y=((i:Int)+1,(List.range i).map λ(r:Nat)=>((2,c.2.1,c.2.2.1,c.2.2.2-((r:Int)+1)):O))) rfl ?_;rintro i y hle rfl R' hR';by_cases e:i<(c.2.1-1).toNat;·simp only[yO (show(i:Int)+1<c.2.1 by omega),yR];refine⟨⟨by omega,by omega⟩,hpre _ _ (by omega) (by omega),⟨by simp;omega,by simp;omega⟩,⟨by omega,by omega⟩,hR' e _ ?_⟩;simp only[h2];rw[ZDJ,ZAa,show(1:Int)*c.2.2.2+-((i:Int)+1)*1=c.2.2.2-((i:Int)+1)by omega];rfl
    ·simp only[yV (show¬(i:Int)+1<c.2.1 by omega),yN];refine hR _ ?_;rw[ho,show i=(c.2.1-1).toNat by omega]
theorem Fe.spec(n:Int):Fe.wp n λr=>r=Fe.fn (n,()):=⟨λh=>⟨h,trivial⟩,λh=>h,rfl⟩
theorem Ff.spec(l:List Int)(hl:l.length≤9223372036854775807):Ff.wp l λr=>r=Ff.fn (l,()):=by
 have hfn:Ff.fn (l,())=l.all Bm:=rfl;simp only[Ff.wp,hfn,Fe.fn];refine Lp.all l 0 Bm hl ?_ ?_;·intro i R e e2 hf h1 h2;simp only[yO e2,yQ,yR];refine⟨⟨by omega,by omega⟩,?_⟩;cases h:Bm (l.getD i 0)with|true=>exact⟨hf,h1 h⟩|false=>exact(h2 h).symm
 ·intro R h;simp only[yY,yZ,yN];exact h.symm
theorem jI{a b:List Int}(ha:∀n∈a,Bw n=true)(hb:∀n∈b,Bm n=true)(s:Int):(a.zip b).foldlM JG s=some (s+Az a b):=by rw[PV,yS];rw[ZAP];rintro⟨x,y⟩h;rw[ha x (ZCm h).1,hb y (ZCm h).2];rfl
theorem jG{a b:List Int}(ha:∀n∈a,Bw n=true)(hb:∀n∈b,Bm n=true):-(4503599627370496*(a.length:Int))≤Az a b∧Az a b≤4503599627370496*(a.length:Int):=by have :=PW (jI ha hb 0);simp only[List.length_zip]at this;omega
theorem jH{a b:List Int}{i:Nat}(h:i<a.length)(h2:i<b.length):Az (a.take (i+1)) (b.take (i+1))=Az (a.take i) (b.take i)+a.getD i 0*b.getD i 0:=by
 rw[BN 0 h,BN 0 h2];have key:∀(u v:List Int)(x y:Int),u.length=v.length→Az (u++[x]) (v++[y])=Az u v+x*y:=by intro u;induction u with
  |nil=>intro v x y h;cases v with|nil=>simp[Az]|cons _ _=>simp at h
  |cons p u ih=>intro v x y h;cases v with|nil=>simp at h|cons q v=>simp only[ZA1,Az];rw[ih v x y (by simpa using h)];omega
 exact key _ _ _ _ (by simp;omega)
theorem D1.spec(l:AT)(p:List Int)(hp:D1.pre (l,p,())):D1.wp l p λr=>r=D1.fn (l,p,()):=by
 obtain⟨hv,hl,hc⟩:=hp;simp only at hv hl hc;obtain⟨h1,h2,h3⟩:=BI.b hv;have hfn:D1.fn (l,p,())=l.2+Az l.1 p:=rfl;have nH:∀n∈l.1,Bw n=true:=λn hn=>Ld.2 (h2 n hn);simp only[D1.wp,hfn];refine Lp.iter l.1.length (λi y=>y=((i:Int),l.2+Az (l.1.take i) (p.take i))) (by simp[Az]) ?_;rintro i y hle rfl R hR;by_cases e:i<l.1.length
 ·have e2:i<p.length:=by omega
  have hb:=jG (a:=l.1.take i) (b:=p.take i) (λn hn=>nH n (zZ hn)) λn hn=>hc n (zZ hn);have AY:(l.1.take i).length=i:=by simp;omega
  rw[AY]at hb;have hx:=h2 _ (AX (d:=0) e);have hy:=SA.1 (hc _ (AX (d:=0) e2));have hm:=QY (n:=1048576) (m:=4294967296) (by omega) (by omega) hx.1 hx.2 hy.1 hy.2;have ht:=jH e e2;simp only[yO (show(i:Int)<(l.1.length:Int)by omega),yQ,yR];generalize l.1.getD i 0*p.getD i 0=v at*;refine⟨⟨by omega,by omega⟩,⟨by omega,by omega⟩,⟨by omega,by omega⟩,⟨by omega,by omega⟩,⟨by omega,by omega⟩,hR e _ ?_⟩;rw[ht,Int.add_assoc];rfl
 ·have :i=l.1.length:=by omega
  subst this;simp only[yY,yZ,yN,zA];rw[hl,zA]
theorem D4.spec(c:O)(p:List Int)(hp:D4.pre (c,p,())):D4.wp c p λr=>r=D4.fn (c,p,()):=by
 obtain⟨hv,hl,hc⟩:=hp;simp only at hv hl hc;have hk:=AJ.kind hv;have hfn:D4.fn (c,p,())=FH c (c.2.2.2+Az c.2.2.1 p):=rfl;simp only[D4.wp,D1.fn,hfn];refine⟨⟨AJ.lin hv,hl,hc⟩,?_⟩;unfold FH;by_cases k0:c.1=0;·rw[yS k0];simp only[k0,ZAG,yR]
 ·by_cases k1:c.1=1;·rw[yP k0,yS k1];simp only[k1,show((1:Int)==0)=false from rfl,ZAG,yR,yN]
  ·rw[yP k0,yP k1];simp only[beq_eq_false_iff_ne.2 k0,beq_eq_false_iff_ne.2 k1,yN];exact⟨by omega,trivial⟩
theorem DB.spec(q:List O)(p:List Int)(hl:q.length≤9223372036854775807)(hp:DB.pre (q,p,())):DB.wp q p λr=>r=DB.fn (q,p,()):=by
 have hp':∀c∈q,JC c p:=hp;have hfn:DB.fn (q,p,())=q.all λc=>Ao c p:=rfl;simp only[DB.wp,hfn,D4.fn];refine Lp.all q U (λc=>Ao c p) hl ?_ ?_;·intro i R e e2 hf h1 h2;simp only[yO e2,yQ,yR];refine⟨⟨by omega,by omega⟩,hp' _ (AX e),?_⟩;cases h:Ao (q.getD i U) p with|true=>exact⟨hf,h1 h⟩|false=>exact(h2 h).symm
 ·intro R h;simp only[yY,yZ,yN];exact h.symm
theorem Ax.spec(s:AG)(p:List Int)(hl:s.2.length≤9223372036854775807)(hp:Ax.pre (s,p,())):Ax.wp s p λr=>r=Ax.fn (s,p,()):=by
 have hp':∀q∈s.2,∀c∈q,JC c p:=hp;have hfn:Ax.fn (s,p,())=!s.2.all λq=>!q.all λc=>Ao c p:=by show(s.2.any λq=>q.all λc=>Ao c p)=_;rw[List.not_all_eq_any_not];simp
 simp only[Ax.wp,hfn,DB.fn];refine Lp.all s.2 [] (λq=>!q.all λc=>Ao c p) hl ?_ ?_;·intro i R e e2 hf h1 h2;simp only[yO e2,yQ,yR];refine⟨⟨by omega,by omega⟩,hp' _ (AX e),?_⟩;cases h:(s.2.getD i []).all λc=>Ao c p with|false=>exact⟨hf,h1 (by rw[h];rfl)⟩|true=>show true=_;rw[h2 (by rw[h];rfl)];rfl
 ·intro R h;simp only[yY,yZ,yN];rw[h];rfl
theorem PU{c:O}{p:List Int}(h:JC c p):F1 c p=(Ao c p,0):=by
 obtain⟨hv,hl,hc⟩:=h;obtain⟨h1,h2,h3⟩:=BI.b (AJ.lin hv);have hd:Eu c.2.2.1 p=(Az c.2.2.1 p,0):=by unfold Eu;rw[yP (by omega),yP (by omega),yS];rw[ZAP];rintro⟨x,y⟩h;rw[Ld.2 (h2 x (ZCm h).1),hc y (ZCm h).2];rfl
 have ha:Hb c.2.2 p=(c.2.2.2+Az c.2.2.1 p,0):=by simp[Hb,AJ.lin hv,hd]
 simp[F1,hv,ha,Ao]
theorem Fi.spec(s:AG)(p:List Int):Fi.wp s p λr=>r=Fi.fn (s,p,()):=by have hfn:Fi.fn (s,p,())=EZ s p:=rfl;simp only[Fi.wp,hfn,Bl.fn,Ff.fn,Ax.fn];cases hv:AD s with|false=>simp[EZ,hv]|true=>
 by_cases h1:((p.length:Nat):Int)=s.1;·simp only[h1,zJ,yN,zU];cases h2:p.all Bm with|false=>simp[EZ,hv,h1,h2]|true=>
  simp only[zU,yN];have hok:∀q∈s.2,∀c∈q,JC c p:=λq hq c hc=>by obtain⟨h3,h4⟩:=((AD.b hv).2.2.2 q hq).2 c hc;exact⟨h3,by omega,List.all_eq_true.1 h2⟩
  refine⟨hok,?_⟩;have :(s.2.any λq=>!q.any λc=>!(F1 c p).1)=s.2.any λq=>q.all λc=>Ao c p:=by
   rw[ZAc,ZBN,ZBN];have :∀q∈s.2,(!q.any λc=>!(F1 c p).1)=q.all λc=>Ao c p:=λq hq=>by
    rw[List.not_any_eq_all_not];rw[ZAc,ZAP,ZAP];constructor;·intro h c hc;have :=h c hc;rw[PU (hok q hq c hc)]at this;simpa using this
    ·intro h c hc;rw[PU (hok q hq c hc)];simpa using h c hc
   constructor;·rintro⟨q,hq,h⟩;exact⟨q,hq,by rw[←this q hq];exact h⟩
   ·rintro⟨q,hq,h⟩;exact⟨q,hq,by rw[this q hq];exact h⟩
  simp only[EZ,hv,h1,h2,ZBG,ZAY,ZDM,ZBj,this]
 ·simp only[bne_iff_ne.2 h1,yR,zU,yN];simp[EZ,hv,h1]
abbrev Gk(b:List O)(acc:List (List O))(a:List O):Option (List (List O)):=if(Bn a b).2≠0 then none else some (acc++(Bn a b).1)
theorem vL(a b:List (List O)):B7 (a++b)=(B7 a).bind λout=>b.foldlM BB out:=by unfold B7;rw[ZAz];rfl
theorem Wn(b:List O):∀(cur acc:List (List O)),(cur.foldlM (Gk b) acc).bind B7=(B7 acc).bind λout=>cur.foldlM (Gm b) out
 |[],acc=>by show B7 acc=(B7 acc).bind some;cases B7 acc<;>rfl|a::cur,acc=>by
  simp only[zQ];by_cases h:(Bn a b).2=0;·have e1:Gk b acc a=some (acc++(Bn a b).1):=yP λh2=>h2 h;have e2:∀out,Gm b out a=(Bn a b).1.foldlM BB out:=λout=>yP λh2=>h2 h;rw[e1];show(cur.foldlM (Gk b) (acc++(Bn a b).1)).bind B7=_;rw[Wn b cur,vL];simp only[e2];cases B7 acc<;>rfl
  ·have e1:Gk b acc a=none:=yS h;have e2:∀out,Gm b out a=none:=λout=>yS h;rw[e1];simp only[e2];cases B7 acc<;>rfl
theorem rS(cur:List (List O))(b:List O):Gv cur b=(cur.foldlM (Gk b) []).bind B7:=(Wn b cur []).symm
theorem SB{a b:List O}{n:Nat}(ha:Am a n)(hv:Bs b)(hb:Am b n):∀p∈(Bn a b).1,Am p n:=by
 unfold Bn;split;·simp
 ·split;·intro p hp;simp only[zC]at hp;subst hp;exact ha
  ·have key:∀(l:List Nat)(out out':List (List O)),(∀i∈l,i<b.length)→l.foldlM (EY a b) out=some out'→(∀p∈out,Am p n)→∀p∈out',Am p n:=by intro l;induction l with|nil=>intro out out' _ h h3;cases h;exact h3|cons i l ih=>
    intro out out' hl h h3;simp only[zQ,ZAE,ZAB]at h;obtain⟨s,h1,h2⟩:=h;refine ih s out' (λj hj=>hl j (by simp[hj])) h2 ?_;have hm:=AX (d:=U) (hl i (by simp));have hn:=rY (hv.2 _ hm);unfold EY at h1;split at h1;·cases h1
    ·cases h1;intro p hp;rcases List.mem_append.1 hp with hp|hp;·exact h3 p hp
     ·obtain⟨o,ho,rfl⟩:=List.mem_map.1 hp;intro c hc;rcases List.mem_append.1 hc with hc|hc;·exact ha c hc
      ·rcases List.mem_append.1 hc with hc|hc;·exact hb c (zZ hc)
       ·simp only[zC]at hc;subst hc;rw[hn c ho,hb _ hm]
   rcases Co ((List.range b.length).foldlM (EY a b) [])with h|⟨out,h⟩;·rw[h];simp
   ·rw[h];exact key _ _ _ (λi hi=>List.mem_range.1 hi) h (by simp)
theorem Wl{b:List O}(hb:Bs b){n:Nat}(Ds:Am b n):∀{l acc acc':List (List O)},l.foldlM (Gk b) acc=some acc'→(∀p∈acc,A2 p∧Am p n)→(∀p∈l,Bs p∧Am p n)→acc'.length≤acc.length+4194304*l.length∧∀p∈acc',A2 p∧Am p n
 |[],acc,acc',h,h1,_=>by cases h;exact⟨by simp,h1⟩|a::l,acc,acc',h,h1,hv=>by
  simp only[zQ,ZAE,ZAB]at h;obtain⟨s,h2,h3⟩:=h;obtain⟨N4,G8⟩:=hv a (by simp);obtain⟨hcl,TT⟩:=M5 N4 hb;unfold Gk at h2;split at h2;·cases h2
  ·cases h2;obtain⟨h4,h5⟩:=Wl hb Ds h3 (λp hp=>(List.mem_append.1 hp).elim (h1 p) λhp=>⟨TT p hp,SB G8 hb Ds p hp⟩) λp hp=>hv p (by simp[hp]);refine⟨?_,h5⟩;simp only[yU,yX]at*;omega
theorem iS{a b:List O}(h0:(Aa (a++b)).2.2=0)(h1:(Aa (a++b)).2.1=true):Bn a b=([a],0):=by simp[Bn,h0,h1]
theorem Wm{a b:List O}{acc r:List (List O)}(h:Bn a b=(r,0)):Gk b acc a=some (acc++r):=by simp[Gk,h]
theorem Fl.spec(x y:AG):Fl.wp x y λr=>r=Fl.fn (x,y,()):=by
 have hfn:Fl.fn (x,y,())=BQ x y:=rfl;simp only[Fl.wp,D5.fn,hfn,EQ.fn,Ce.fn,CK.fn,Fh.fn,Bu.fn];by_cases he:Dn x y=0
 ·obtain⟨pR,pS,MN⟩:=Mv he;have hM:BQ x y=if(A1 x).2≠0∨(A1 y).2≠0 then((0,[]),3)else CW x.1 ((A1 y).1.2.foldlM Gv (A1 x).1.2):=by unfold BQ;exact yP λh=>h he
  simp only[he,zJ,yN];refine⟨λh=>⟨h,trivial⟩,λh=>by rw[h];rfl,?_⟩;by_cases hx:(A1 x).2=0
  ·by_cases hy:(A1 y).2=0
   ·simp only[hx,hy,zJ,ZBL,yN,ZDM,ZBj,or_self,ZAY]at hM⊢;obtain⟨pX,eX⟩:=OM hx;obtain⟨pY,eY⟩:=OM hy;have dX:=Ur pR hx;have dY:=Ur pS hy;rw[←MN]at dY;generalize(A1 x).1.2=X at*;generalize(A1 y).1.2=Y at*;generalize x.1.toNat=n at*;have mF:=pY.1;refine Lp.iter Y.length (λi z=>∃cur,z=((i:Int),cur)∧(Y.take i).foldlM Gv X=some cur∧∀p∈cur,Am p n) ⟨X,rfl,rfl,dX⟩ ?_;rintro i z hle⟨cur,rfl,ht,hdc⟩R hR;have pC:=Ug ht pX λp hp=>pY.v (zZ hp);by_cases e:i<Y.length
    ·simp only[yO (show(i:Int)<(Y.length:Int)by omega),yQ,yR];refine⟨⟨by omega,by omega⟩,?_⟩;have E5:=pY.v (AX (d:=[]) e);have P2:=dY _ (AX (d:=[]) e);have hsn:=H7 (d:=[]) ht e;have IL:=KN (d:=[]) ht e;have hT:Gv cur (Y.getD i [])=none→BQ x y=((0,[]),3):=λh=>by rw[hM,IL h];rfl
     rw[rS]at hsn hT;have lT:=pC.1;have YW:=(pY.2 _ (AX (d:=[]) e)).1;refine Lp.iter cur.length (λj z=>∃acc,z=((j:Int),acc)∧(cur.take j).foldlM (Gk (Y.getD i [])) []=some acc) ⟨[],rfl,rfl⟩ ?_;rintro j z Np⟨acc,rfl,GV⟩R2 A8;obtain⟨hal,hab⟩:=Wl E5 P2 GV (by simp) λp hp=>⟨pC.v (zZ hp),hdc p (zZ hp)⟩;simp only[zF,zG]at hal;by_cases e2:j<cur.length
     ·simp only[yO (show(j:Int)<(cur.length:Int)by omega),yQ,yR];have N4:=pC.v (AX (d:=[]) e2);have G8:=hdc _ (AX (d:=[]) e2);have xE:=(pC.2 _ (AX (d:=[]) e2)).1;have hsn2:=H7 (d:=[]) GV e2;have Kd:Gk (Y.getD i []) acc (cur.getD j [])=none→BQ x y=((0,[]),3):=λh=>hT (by rw[KN (d:=[]) GV e2 h];rfl);have YU:∀acc',Gk (Y.getD i []) acc (cur.getD j [])=some acc'→R2 ((j:Int)+1,acc'):=λacc' h=>A8 e2 _ ⟨acc',rfl,hsn2.trans h⟩;refine⟨⟨by omega,by omega⟩,⟨by show(cur.getD j []).length≤_;omega,by show(Y.getD i []).length≤_;omega⟩,O6 (pC.2 _ (AX (d:=[]) e2)) (pY.2 _ (AX (d:=[]) e)) G8 P2,?_⟩;clear hsn2 A8 hsn hT hR;by_cases h0:(Aa ( cur.getD j []++Y.getD i [])).2.2=0
      ·simp only[h0,zJ,yN];by_cases h1:(Aa ( cur.getD j []++Y.getD i [])).2.1=true;·simp only[h1,yR];have DD:Bn (cur.getD j []) (Y.getD i [])=([cur.getD j []],0):=iS h0 h1;refine⟨⟨by simp;omega,by simp;omega⟩,⟨by omega,by omega⟩,YU _ (Wm DD)⟩
       ·rw[ZA9]at h1;simp only[h1,yN];have DD:Bn (cur.getD j []) (Y.getD i [])=match(List.range (Y.getD i []).length).foldlM (EY (cur.getD j []) (Y.getD i [])) []with|none=>([],3)|some out=>(out,0):=by unfold Bn;exact(yP λh=>h h0).trans (yP (by rw[h1];simp))
        have F3:(List.range (Y.getD i []).length).length=(Y.getD i []).length:=by simp
        refine Lp.iter (Y.getD i []).length (λk z=>∃out,z=((k:Int),acc++out)∧((List.range (Y.getD i []).length).take k).foldlM (EY (cur.getD j []) (Y.getD i [])) []=some out) ⟨[],by simp,rfl⟩ ?_;rintro k z nU⟨out,rfl,Kl⟩R3 Ln;have Du:=PQ E5 (λm hm=>by have :=zZ hm;simpa using this) Kl;simp only[zF,zG,F3]at Du;by_cases e3:k<(Y.getD i []).length
        ·have hsn3:=H7 (d:=0) Kl (by rw[F3];exact e3);have Yy:=KN (d:=0) Kl (by rw[F3];exact e3);rw[VC e3]at hsn3 Yy;simp only[yO (show(k:Int)<((Y.getD i []).length:Int)by omega),yQ,yR];have Kb:=Qa (E5.2 _ (AX (d:=U) e3));refine⟨⟨by omega,by omega⟩,?_⟩;by_cases hn:(B4 ((Y.getD i []).getD k U)).2=0
         ·simp only[hn,zJ,yN];have hcs:EY (cur.getD j []) (Y.getD i []) out k=some (out++(B4 ((Y.getD i []).getD k U)).1.map λo=>cur.getD j []++((Y.getD i []).take k++[o])):=yP λh=>h hn;have h4:=Kb.2.1;refine Lp.iter (B4 ((Y.getD i []).getD k U)).1.length (λm y=>y=((m:Int),acc++out++((B4 ((Y.getD i []).getD k U)).1.take m).map λo=>cur.getD j []++((Y.getD i []).take k++[o]))) (by simp) ?_;rintro m y FQ rfl R' hR';by_cases e4:m<(B4 ((Y.getD i []).getD k U)).1.length
          ·simp only[yO (show(m:Int)<((B4 ((Y.getD i []).getD k U)).1.length:Int)by omega),yQ,yR];refine⟨⟨by omega,by omega⟩,⟨by omega,by omega⟩,⟨by show(cur.getD j []).length≤_;omega,by show((Y.getD i []).take k).length≤_;simp only[yU,zG];omega⟩,⟨by show( cur.getD j []++(Y.getD i []).take k).length≤_;simp only[yU,zG];omega,by simp⟩,⟨?_,?_⟩,⟨by omega,by omega⟩,hR' e4 _ ?_⟩;·simp only[yU,zL,zG,yX,zF];omega
           ·simp only[yU,zL,zG,yX,zF];omega
           ·rw[BN U e4,ZAa,ZAO (cur.getD j [])];exact zX (Prod.mk ((m:Int)+1)) (ZAO _ _ _)
          ·have :m=(B4 ((Y.getD i []).getD k U)).1.length:=by omega
           subst this;simp only[yY,yZ,yN,zA];refine⟨⟨by omega,by omega⟩,Ln e3 _ ⟨_,?_,hsn3.trans hcs⟩⟩;rw[ZAO];rfl
         ·simp only[bne_iff_ne.2 hn,yR];have :Gk (Y.getD i []) acc (cur.getD j [])=none:=by refine yS ?_;rw[DD,Yy (yS hn)];decide
          rw[Kd this,Kb.1.resolve_left hn]
        ·have :k=(Y.getD i []).length:=by omega
         subst this;simp only[yY,yZ,yN];rw[ZA3 (by rw[F3];exact zB _)]at Kl;rw[Kl]at DD;exact⟨⟨by omega,by omega⟩,YU _ (Wm DD)⟩
      ·simp only[bne_iff_ne.2 h0,yR];have DD:Bn (cur.getD j []) (Y.getD i [])=([],3):=yS h0;rw[Kd (yS (by rw[DD];decide)),((RA _).resolve_left h0).1]
     ·have :j=cur.length:=by omega
      subst this;simp only[yY,yZ,yN];rw[zA]at GV;rw[GV,ZAv]at hsn hT;refine⟨⟨by simp only;omega,λp hp=>⟨(hab p hp).1,n,(hab p hp).2⟩⟩,?_⟩;rcases Co (B7 acc)with h5|⟨out,h5⟩;·rw[h5];rw[hT h5];rfl
      ·rw[h5];refine⟨⟨by omega,by omega⟩,hR e _ ⟨out,rfl,hsn.trans h5,Om h5 (by simp) hab⟩⟩
    ·have :i=Y.length:=by omega
     subst this;simp only[yY,yZ,yN];rw[zA]at ht;rw[hM,ht];rfl
   ·simp only[bne_iff_ne.2 hy,ZBD,yR];rw[hM,yS (.inr hy)]
  ·simp only[bne_iff_ne.2 hx,ZBd,yR];rw[hM,yS (.inl hx)]
 ·rw[bne_iff_ne.2 he];simp[BQ,he]
theorem Ku(C:List Int):Al (Al C)=C:=by
 unfold Al;rw[ZCL];conv=>rhs;rw[←ZCE C]
 exact ZAw λn _=>by simp
theorem Xz(C:List Int):AO (Al C)=AO C:=by unfold AO Al;rw[List.foldl_map];simp
theorem Pg:∀{C:List Int},AO C≠0→Ct (Al C)=!Ct C
 |[],h=>by simp[AO]at h|n::C,h=>by
  simp only[Al,ZAK,Ct];by_cases h0:n=0;·subst h0;rw[Po]at h;simp at h;simp only[Int.neg_zero,ZA4];exact Pg h
  ·rw[yP h0,yP (show-n≠0 by omega)];by_cases h1:n<0;·rw[yO h1,yV (show¬-n<0 by omega)];rfl
   ·rw[yV h1,yO (show-n<0 by omega)];rfl
theorem aK{C:List Int}(h:AO C=1):Al C≠C:=λe=>by have :=Pg (C:=C) (by omega);rw[e]at this;cases h2:Ct C<;>rw[h2]at this<;>cases this
abbrev EW(c:O):O:=(AV (1,0,c.2.2)).1
theorem dM{c d:O}(h:AO c.2.2.1=1)(h1:d.2.2.1=Al c.2.2.1)(h2:c.2.2.2+d.2.2.2=0):EW d=EW c:=by
 obtain⟨k,m,C,K⟩:=c;obtain⟨k',m',C',K'⟩:=d;simp only at h h1 h2;subst h1;have h3:K'=-K:=by omega
 subst h3;have hf:=Pg (C:=C) (by omega);have hs:Bo (1,0,Al C,-K)=-Bo (1,0,C,K):=by simp only[Bo,Xz,hf];cases Ct C<;>simp
 have ha:∀s K:Int,∀C:List Int,AO C=1→Bt (1,0,C,K)=((1,0,C.map (·.tdiv (Bo (1,0,C,K))),K.tdiv (Bo (1,0,C,K))),0):=λs K C hC=>by
  have :¬(AO C=0∨K.tmod (AO C)≠0):=by
   rw[hC];rintro(h|h);·omega
   ·exact h (tmod_one _)
  unfold Bt;exact yP this
 show(Bt (1,0,Al C,-K)).1=(Bt (1,0,C,K)).1;rw[ha 0 _ _ h,ha 0 _ _ (by rw[Xz];exact h),hs];simp only[Al,ZCL,ZDk,Int.neg_tdiv,Int.neg_neg];congr 4;funext n;simp
def Mk(n:Nat)(c:O):Prop:=Ji n c∧GW c.1∧(c.1=0→c.2.1=0)
theorem Mk.gcd{n:Nat}{c:O}(h:Mk n c)(h0:c.1=0):AO c.2.2.1=1:=h.1.2.1 (by omega)
theorem Hy{n:Nat}{c:O}(h:Mk n c)(h0:c.1=0):Mk n (EW c)∧(EW c).1=1:=by obtain⟨h1,h2,h3⟩:=Xb h.1 h0;exact⟨⟨h2,.inr (.inl h3),λh=>by rw[h3]at h;cases h⟩,h3⟩
def Lm(l:List O)(c:O):Prop:=c∈l∧(c.1=0→∀d∈l,d.1=0→d.2.2.1=c.2.2.1→c.2.2.2≤d.2.2.2)
theorem Lm.uniq{n:Nat}{l:List O}(hl:∀c∈l,Mk n c){c d:O}(hc:Lm l c)(hd:Lm l d)(h0:c.1=0)(h1:d.1=0)(h:c.2.2.1=d.2.2.1):c=d:=by have a:=hc.2 h0 d hd.1 h1 h.symm;have b:=hd.2 h1 c hc.1 h0 h;have e1:=(hl c hc.1).2.2 h0;have e2:=(hl d hd.1).2.2 h1;exact ZBp (by omega) (ZBp (by omega) (ZBp h (by omega)))
def Dm(L:O→Prop)(c:O):Prop:=∃d,L d∧d.1=0∧d.2.2.1=Al c.2.2.1∧c.2.2.2+d.2.2.2=0
def G2(L:O→Prop):Prop:=∃c d,L c∧L d∧c.1=0∧d.1=0∧d.2.2.1=Al c.2.2.1∧c.2.2.2+d.2.2.2<0
def MM(L:O→Prop)(x:O):Prop:=L x∧(x.1=0→¬Dm L x)∨∃c,L c∧c.1=0∧Dm L c∧x=EW c
def GH(M:O→Prop):Prop:=(∃e f,M e∧M f∧e.1=1∧f.1=1∧e.2.2.1=f.2.2.1∧e.2.2.2≠f.2.2.2)∨∃c e,M c∧M e∧c.1=0∧e.1=1∧( e.2.2.1=c.2.2.1∧c.2.2.2<e.2.2.2∨e.2.2.1=Al c.2.2.1∧c.2.2.2+e.2.2.2<0)
def I9(M:O→Prop)(x:O):Prop:=M x∧(x.1=0→∀e,M e→e.1=1→e.2.2.1≠x.2.2.1∧e.2.2.1≠Al x.2.2.1)
theorem fS{l:List O}{c:O}(h:c.1≠0)(x:O):Lm (l++[c]) x↔Lm l x∨x=c:=by
 simp only[Lm,zM,zC];constructor
 ·rintro⟨h1|h1,h2⟩;·exact .inl ⟨h1,λh0 d hd=>h2 h0 d (.inl hd)⟩
  ·exact .inr h1
 ·rintro(⟨h1,h2⟩|rfl)
  ·refine⟨.inl h1,λh0 d hd hd0=>?_⟩;rcases hd with hd|rfl;·exact h2 h0 d hd hd0
   ·exact absurd hd0 h
  ·exact⟨.inr rfl,λh0=>absurd h0 h⟩
theorem RR{n:Nat}{l:List O}{c:O}(hl:∀d∈l,Mk n d)(hc:Mk n c)(h:c.1=0)(x:O):Lm (l++[c]) x↔Lm l x∧¬(x.1=0∧x.2.2.1=c.2.2.1)∨x.1=0∧x.2.2.1=c.2.2.1∧((∃d,Lm l d∧d.1=0∧d.2.2.1=c.2.2.1∧x=Cn d c.2.2.2)∨¬(∃d,Lm l d∧d.1=0∧d.2.2.1=c.2.2.1)∧x=c):=by
 have A9:∀y,y∈l++[c]↔y∈l∨y=c:=λy=>by simp
 have Hq:∀(y:O),y∈l→y.1=0→∃d,Lm l d∧d.1=0∧d.2.2.1=y.2.2.1∧d.2.2.2≤y.2.2.2:=by
  have key:∀(m:List O),(∀y∈m,y∈l)→∀y∈m,y.1=0→∃d∈m,d.1=0∧d.2.2.1=y.2.2.1∧d.2.2.2≤y.2.2.2∧∀z∈m,z.1=0→z.2.2.1=y.2.2.1→d.2.2.2≤z.2.2.2:=by intro m;induction m with|nil=>intro _ y hy;cases hy|cons a m ih=>
   intro hs y hy h0;have ih':=ih λz hz=>hs z (by simp[hz]);rcases List.mem_cons.1 hy with rfl|hy
   ·by_cases hex:∃z∈m,z.1=0∧z.2.2.1=y.2.2.1
    ·obtain⟨z,hz,Ba,hz1⟩:=hex;obtain⟨d,hd,hd0,hd1,Ev,Hj⟩:=ih' z hz Ba;by_cases AY:d.2.2.2≤y.2.2.2
     ·refine⟨d,by simp[hd],hd0,hd1.trans hz1,AY,λw hw HR hw1=>?_⟩;rcases List.mem_cons.1 hw with rfl|hw;·exact AY
      ·exact Hj w hw HR (hw1.trans hz1.symm)
     ·refine⟨y,by simp,h0,rfl,ZAr _,λw hw HR hw1=>?_⟩;rcases List.mem_cons.1 hw with rfl|hw;·exact ZAr _
      ·have :=Hj w hw HR (hw1.trans hz1.symm);omega
    ·refine⟨y,by simp,h0,rfl,ZAr _,λw hw HR hw1=>?_⟩;rcases List.mem_cons.1 hw with rfl|hw;·exact ZAr _
     ·exact absurd ⟨w,hw,HR,hw1⟩ hex
   ·obtain⟨d,hd,hd0,hd1,Ev,Hj⟩:=ih' y hy h0;by_cases ha:a.1=0∧a.2.2.1=y.2.2.1∧a.2.2.2<d.2.2.2
    ·refine⟨a,by simp,ha.1,ha.2.1,by omega,λw hw HR hw1=>?_⟩;rcases List.mem_cons.1 hw with rfl|hw;·exact ZAr _
     ·have :=Hj w hw HR hw1;omega
    ·refine⟨d,by simp[hd],hd0,hd1,Ev,λw hw HR hw1=>?_⟩;rcases List.mem_cons.1 hw with rfl|hw;·apply ZC8;intro Tj;exact ha ⟨HR,hw1,Tj⟩
     ·exact Hj w hw HR hw1
  intro y hy h0;obtain⟨d,hd,hd0,hd1,Ev,Hj⟩:=key l (λy h=>h) y hy h0;exact⟨d,⟨hd,λ_ z hz Ba hz1=>Hj z hz Ba (hz1.trans hd1)⟩,hd0,hd1,Ev⟩
 have heq:∀(y z:O),Mk n y→Mk n z→y.1=0→z.1=0→y.2.2.1=z.2.2.1→y.2.2.2=z.2.2.2→y=z:=λy z hy hz h1 h2 h3 h4=>by have e1:=hy.2.2 h1;have e2:=hz.2.2 h2;exact ZBp (by omega) (ZBp (by omega) (ZBp h3 h4))
 constructor
 ·rintro⟨hx,Cw⟩;by_cases CU:x.1=0∧x.2.2.1=c.2.2.1
  ·right;refine⟨CU.1,CU.2,?_⟩;have Yu:=Cw CU.1;have JQ:=Yu c ((A9 c).2 (.inr rfl)) h CU.2.symm;by_cases hex:∃d,Lm l d∧d.1=0∧d.2.2.1=c.2.2.1
   ·left;obtain⟨d,hd,hd0,hd1⟩:=hex;have xR:=Yu d ((A9 d).2 (.inl hd.1)) hd0 (hd1.trans CU.2.symm);have MF:=hl d hd.1;refine⟨d,hd,hd0,hd1,?_⟩;rcases(A9 x).1 hx with ML|rfl;·have h3:=hd.2 hd0 x ML CU.1 (CU.2.trans hd1.symm);refine heq x (Cn d c.2.2.2) (hl x ML) MF CU.1 hd0 (CU.2.trans hd1.symm) ?_;show x.2.2.2=min d.2.2.2 c.2.2.2;omega
    ·refine heq x (Cn d x.2.2.2) hc MF CU.1 hd0 hd1.symm ?_;show x.2.2.2=min d.2.2.2 x.2.2.2;omega
   ·right;refine⟨hex,?_⟩;rcases(A9 x).1 hx with ML|rfl;·obtain⟨d,hd,hd0,hd1,_⟩:=Hq x ML CU.1;exact absurd ⟨d,hd,hd0,hd1.trans CU.2⟩ hex
    ·rfl
  ·left;refine⟨?_,CU⟩;rcases(A9 x).1 hx with ML|rfl;·exact⟨ML,λh0 d hd=>Cw h0 d ((A9 d).2 (.inl hd))⟩
   ·exact absurd ⟨h,rfl⟩ CU
 ·rintro(⟨hx,CU⟩|⟨h0,CU,⟨d,hd,hd0,hd1,rfl⟩|⟨hex,rfl⟩⟩)
  ·refine⟨(A9 x).2 (.inl hx.1),λh0 d hd hd0 hd1=>?_⟩;rcases(A9 d).1 hd with hd|rfl;·exact hx.2 h0 d hd hd0 hd1
   ·exact absurd ⟨h0,hd1.symm⟩ CU
  ·have MF:=hl d hd.1;refine⟨?_,λ_ z hz Ba hz1=>?_⟩
   ·by_cases AY:d.2.2.2≤c.2.2.2;·have :Cn d c.2.2.2=d:=heq _ _ MF MF hd0 hd0 rfl (by show min d.2.2.2 c.2.2.2=_;omega);rw[this];exact(A9 d).2 (.inl hd.1)
    ·have :Cn d c.2.2.2=c:=heq _ _ MF hc hd0 h hd1 (by show min d.2.2.2 c.2.2.2=_;omega);rw[this];exact(A9 c).2 (.inr rfl)
   ·show min d.2.2.2 c.2.2.2≤_;rcases(A9 z).1 hz with hz|rfl;·have :=hd.2 hd0 z hz Ba hz1;omega
    ·omega
  ·refine⟨(A9 x).2 (.inr rfl),λ_ z hz Ba hz1=>?_⟩;rcases(A9 z).1 hz with hz|rfl;·obtain⟨d,hd,hd0,hd1,_⟩:=Hq z hz Ba;exact absurd ⟨d,hd,hd0,hd1.trans hz1⟩ hex
   ·exact ZAr _
theorem qD{C:List Int}{out:List O}(h:Ec C out=none):∀d∈out,¬(d.1=0∧d.2.2.1=C):=by intro d hd;have :=List.findIdx?_eq_none_iff.1 h d hd;simpa using this
def fU(out:List O):Prop:=∀i j,i<out.length→j<out.length→(out.getD i U).1=0→(out.getD j U).1=0→(out.getD i U).2.2.1=(out.getD j U).2.2.1→i=j
theorem MR{n:Nat}:∀{l:List O},(∀c∈l,Mk n c)→∀x,x∈B8 l↔Lm l x:=by
 intro l hl;have key:∀k,k≤l.length→(∀x,x∈B8 (l.take k)↔Lm (l.take k) x)∧fU (B8 (l.take k)):=by intro k;induction k with|zero=>exact λ_=>⟨λx=>by simp[B8,Lm],λi j hi=>by simp[B8]at hi⟩|succ k ih=>
  intro hk;obtain⟨ih1,ih2⟩:=ih (by omega);have e:k<l.length:=by omega
  have BJ:B8 (l.take (k+1))=Ee (B8 (l.take k)) (l.getD k U):=by rw[BN U e,B8,ZBF];rfl
  rw[BJ,BN U e];have hc:=hl _ (AX (d:=U) e);have MD:∀d∈l.take k,Mk n d:=λd hd=>hl d (zZ hd);generalize l.getD k U=c at*;generalize l.take k=m at*;generalize B8 m=out at*;by_cases h0:c.1=0
  ·have Tu:Ee out c=match Ec c.2.2.1 out with|some i=>out.set i (Cn (out.getD i U) c.2.2.2)|none=>out++[c]:=by unfold Ee;exact yP λh=>h h0
   rw[Tu];rcases Co (Ec c.2.2.1 out)with hg|⟨i,hg⟩
   ·rw[hg];have CQ:=qD hg;constructor
    ·intro x;rw[RR MD hc h0];simp only[zM,zC];constructor
     ·rintro(hx|rfl);·exact .inl ⟨(ih1 x).1 hx,CQ x hx⟩
      ·exact .inr ⟨h0,rfl,.inr ⟨λ⟨d,hd,hd0,hd1⟩=>CQ d ((ih1 d).2 hd) ⟨hd0,hd1⟩,rfl⟩⟩
     ·rintro(⟨hx,_⟩|⟨_,_,⟨d,hd,hd0,hd1,_⟩|⟨_,rfl⟩⟩);·exact .inl ((ih1 x).2 hx)
      ·exact absurd ⟨hd0,hd1⟩ (CQ d ((ih1 d).2 hd))
      ·exact .inr rfl
    ·intro i j hi hj hi0 Fz hij;simp only[yU,yX,zF]at hi hj;have A4:∀i,i<out.length→(out++[c]).getD i U=out.getD i U:=λi hi=>by rw[A7 (by simp;omega),A7 hi,ZBn hi]
     have Ho:(out++[c]).getD out.length U=c:=by rw[A7 (by simp)];simp
     by_cases h1:i<out.length<;>by_cases h2:j<out.length;·rw[A4 i h1]at hi0 hij;rw[A4 j h2]at Fz hij;exact ih2 i j h1 h2 hi0 Fz hij
     ·have :j=out.length:=by omega
      subst this;rw[A4 i h1]at hi0 hij;rw[Ho]at hij;exact absurd ⟨hi0,hij⟩ (CQ _ (AX h1))
     ·have :i=out.length:=by omega
      subst this;rw[A4 j h2]at Fz hij;rw[Ho]at hij;exact absurd ⟨Fz,hij.symm⟩ (CQ _ (AX h2))
     ·omega
   ·rw[hg];simp only;obtain⟨hi,hi0,hi1⟩:=UJ hg;have nK:=A7 (d:=U) hi;rw[←nK]at hi0 hi1;have KV:=AX (d:=U) hi;constructor
    ·intro x;rw[RR MD hc h0];constructor
     ·intro hx;obtain⟨j,hj,rfl⟩:=HX (d:=U) hx;rw[ZCI]at hj;by_cases hij:i=j
      ·subst hij;have e1:(out.set i (Cn (out.getD i U) c.2.2.2)).getD i U=Cn (out.getD i U) c.2.2.2:=by rw[A7 (by simpa using hj),ZBP]
       rw[e1];exact .inr ⟨hi0,hi1,.inl ⟨_,(ih1 _).1 KV,hi0,hi1,rfl⟩⟩
      ·have e1:(out.set i (Cn (out.getD i U) c.2.2.2)).getD j U=out.getD j U:=by rw[A7 (by simpa using hj),ZBX hij,A7 hj]
       rw[e1];refine .inl ⟨(ih1 _).1 (AX hj),λh=>hij (ih2 i j hi hj hi0 h.1 (hi1.trans h.2.symm))⟩
     ·rintro(⟨hx,CU⟩|⟨QK,CU,⟨d,hd,hd0,hd1,rfl⟩|⟨hex,rfl⟩⟩)
      ·obtain⟨j,hj,rfl⟩:=HX (d:=U) ((ih1 x).2 hx);have hij:i≠j:=λe=>by subst e;exact CU ⟨hi0,hi1⟩
       have e1:(out.set i (Cn (out.getD i U) c.2.2.2)).getD j U=out.getD j U:=by rw[A7 (by simpa using hj),ZBX hij,A7 hj]
       rw[←e1];exact AX (by simpa using hj)
      ·have KU:d=out.getD i U:=Lm.uniq MD hd ((ih1 _).1 KV) hd0 hi0 (hd1.trans hi1.symm);rw[KU];exact List.mem_iff_getElem.2 ⟨i,by simpa using hi,by rw[ZBP]⟩
      ·exact absurd ⟨_,(ih1 _).1 KV,hi0,hi1⟩ hex
    ·intro a b ha hb GN IC hab;rw[ZCI]at ha hb;have A4:∀j,j<out.length→((out.set i (Cn (out.getD i U) c.2.2.2)).getD j U).1=(out.getD j U).1∧((out.set i (Cn (out.getD i U) c.2.2.2)).getD j U).2.2.1=(out.getD j U).2.2.1:=λj hj=>by
      by_cases hij:i=j;·subst hij;rw[A7 (show i<(out.set i (Cn (out.getD i U) c.2.2.2)).length by simpa using hj),ZBP];exact⟨rfl,rfl⟩
      ·rw[A7 (show j<(out.set i (Cn (out.getD i U) c.2.2.2)).length by simpa using hj),ZBX hij,A7 hj];exact⟨rfl,rfl⟩
     rw[(A4 a ha).1]at GN;rw[(A4 b hb).1]at IC;rw[(A4 a ha).2,(A4 b hb).2]at hab;exact ih2 a b ha hb GN IC hab
  ·have Tu:Ee out c=out++[c]:=by unfold Ee;exact yS h0
   rw[Tu];constructor;·intro x;rw[fS h0,zM,zC,ih1]
   ·intro i j hi hj hi0 Fz hij;simp only[yU,yX,zF]at hi hj;have A4:∀i,i<out.length→(out++[c]).getD i U=out.getD i U:=λi hi=>by rw[A7 (by simp;omega),A7 hi,ZBn hi]
    have Ho:(out++[c]).getD out.length U=c:=by rw[A7 (by simp)];simp
    by_cases h1:i<out.length<;>by_cases h2:j<out.length;·rw[A4 i h1]at hi0 hij;rw[A4 j h2]at Fz hij;exact ih2 i j h1 h2 hi0 Fz hij
    ·have :j=out.length:=by omega
     subst this;rw[Ho]at Fz;exact absurd Fz h0
    ·have :i=out.length:=by omega
     subst this;rw[Ho]at hi0;exact absurd hi0 h0
    ·omega
 have :=(key l.length (zB _)).1;rwa[zA]at this
theorem S0{α τ:Type}{V:Prop}{P:Nat→τ→Prop}(l:List α)(d:α)(f:τ→α→Option τ)(a:τ)(h0:P 0 a)(hs:∀i t,i<l.length→P i t→(f t (l.getD i d)=none→V)∧∀t',f t (l.getD i d)=some t'→P (i+1) t'):(l.foldlM f a=none→V)∧∀t,l.foldlM f a=some t→P l.length t:=by
 have key:∀k,k≤l.length→((l.take k).foldlM f a=none→V)∧∀t,(l.take k).foldlM f a=some t→P k t:=by intro k;induction k with|zero=>intro _;exact⟨λh=>(by have h':some a=none:=h;cases h'),λt h=>by(have h':some a=some t:=h);cases h';exact h0⟩|succ k ih=>
  intro hk;obtain⟨ih1,ih2⟩:=ih (by omega);rcases Co ((l.take k).foldlM f a)with h|⟨t,h⟩
  ·have :(l.take (k+1)).foldlM f a=none:=by rw[BN d (show k<l.length by omega),ZAz,h];rfl
   rw[this];exact⟨λ_=>ih1 h,λt h=>by cases h⟩
  ·have hs':=hs k t (by omega) (ih2 t h);rw[H7 (d:=d) h (by omega)];exact hs'
 have :=key l.length (zB _);rwa[zA]at this
theorem Zh{C:List Int}:∀{l:List O}{k:Nat},FY C l k=none→∀d∈l,¬(d.1=0∧d.2.2.1=C)
 |[],k,_=>by simp|e::l,k,h=>by
  simp only[FY]at h;rcases Co (FY C l (k+1))with h1|⟨j,h1⟩
  ·rw[h1]at h;simp only at h;split at h;·cases h
   ·rename_i h2;intro d hd;rcases List.mem_cons.1 hd with rfl|hd;·exact h2
    ·exact Zh h1 d hd
  ·rw[h1]at h;cases h
def RV(L:List O):Prop:=∀c∈L,∀d∈L,c.1=0→d.1=0→c.2.2.1=d.2.2.1→c=d
theorem bB{n:Nat}{L:List O}(hm:∀c∈L,Mk n c)(hu:RV L):(E9 L=none→G2 (·∈L))∧∀out,E9 L=some out→¬G2 (·∈L)∧∀x,x∈out↔MM (·∈L) x:=by
 let P:Nat→List O×(Int→Option Bool)→Prop:=λi st=>(∀k,k<i→k<L.length→((L.getD k U).1=0→(∀d∈L,d.1=0→d.2.2.1=Al (L.getD k U).2.2.1→0≤(L.getD k U).2.2.2+d.2.2.2)∧(¬Dm (·∈L) (L.getD k U)→L.getD k U∈st.1)∧(Dm (·∈L) (L.getD k U)→EW (L.getD k U)∈st.1))∧((L.getD k U).1≠0→L.getD k U∈st.1))∧(∀x∈st.1,MM (·∈L) x)∧(∀k:Nat,st.2 (k:Int)=some true→k<L.length∧(L.getD k U).1=0∧Dm (·∈L) (L.getD k U)∧EW (L.getD k U)∈st.1);have hinv:=S0 (V:=G2 (·∈L)) (P:=P) (Ha L) (0,U) (GZ L) ([],λ_=>none) ⟨λk hk=>absurd hk (by omega),by simp,λk h=>by cases h⟩ (by
  rintro i⟨out,gone⟩hi⟨hA,hB,hG⟩;rw[Jw]at hi;rw[eC hi];have Bq:=AX (d:=U) hi;have F2:∀x,MM (·∈L) x→∀g:Int→Option Bool,(∀k:Nat,g (k:Int)=some true→k<L.length∧(L.getD k U).1=0∧Dm (·∈L) (L.getD k U)∧EW (L.getD k U)∈out++[x])→(((L.getD i U).1=0→(∀d∈L,d.1=0→d.2.2.1=Al (L.getD i U).2.2.1→0≤(L.getD i U).2.2.2+d.2.2.2)∧(¬Dm (·∈L) (L.getD i U)→L.getD i U∈out++[x])∧(Dm (·∈L) (L.getD i U)→EW (L.getD i U)∈out++[x]))∧((L.getD i U).1≠0→L.getD i U∈out++[x]))→P (i+1) (out++[x],g):=by
   intro x hx g hg hi';refine⟨λk hk Tq=>?_,λy hy=>?_,hg⟩
   ·by_cases Lx:k=i;·subst Lx;exact hi'
    ·obtain⟨h1,h2⟩:=hA k (by omega) Tq;exact⟨λh0=>⟨(h1 h0).1,λh=>List.mem_append.2 (.inl ((h1 h0).2.1 h)),λh=>List.mem_append.2 (.inl ((h1 h0).2.2 h))⟩,λh=>List.mem_append.2 (.inl (h2 h))⟩
   ·rcases List.mem_append.1 hy with hy|hy;·exact hB y hy
    ·simp only[zC]at hy;subst hy;exact hx
  have hG':∀x,∀k:Nat,gone (k:Int)=some true→k<L.length∧(L.getD k U).1=0∧Dm (·∈L) (L.getD k U)∧EW (L.getD k U)∈out++[x]:=λx k h=>by obtain⟨h1,h2,h3,h4⟩:=hG k h;exact⟨h1,h2,h3,List.mem_append.2 (.inl h4)⟩
  have Ho:∀x:O,x∈out++[x]:=λx=>by simp
  simp only[GZ];by_cases hg:(gone (i:Int)).getD false=true
  ·rw[yS hg];refine⟨λh=>(by cases h),λt' ht'=>?_⟩;cases ht';have nL:gone (i:Int)=some true:=by
    rcases Co (gone (i:Int))with h|⟨b,h⟩;·rw[h]at hg;cases hg
    ·rw[h]at hg⊢;simp only[ZBc]at hg;rw[hg]
   obtain⟨h1,h2,h3,h4⟩:=hG i nL;refine⟨λk hk Tq=>?_,hB,hG⟩;by_cases Lx:k=i;·subst Lx;refine⟨λh0=>⟨λd hd hd0 hd1=>?_,λh=>absurd h3 h,λ_=>h4⟩,λh=>absurd h2 h⟩;obtain⟨d',hd',nB,hd1',xP⟩:=h3;have :d=d':=hu d hd d' hd' hd0 nB (hd1.trans hd1'.symm);subst this;omega
   ·exact hA k (by omega) Tq
  ·rw[yP hg];by_cases h0:(L.getD i U).1=0
   ·rw[yP λh=>h h0];have hmk:=hm _ Bq;rcases Co (FY (Al (L.getD i U).2.2.1) L 0)with hj|⟨j,hj⟩;·rw[hj];have CQ:=Zh hj;have Nt:¬Dm (·∈L) (L.getD i U):=λ⟨d,hd,hd0,hd1,_⟩=>CQ d hd ⟨hd0,hd1⟩;refine⟨λh=>(by cases h),λt' ht'=>?_⟩;cases ht';exact F2 _ (.inl ⟨Bq,λ_=>Nt⟩) _ (hG' _) ⟨λ_=>⟨λd hd hd0 hd1=>absurd ⟨hd0,hd1⟩ (CQ d hd),λ_=>Ho _,λh=>absurd h Nt⟩,λh=>absurd h0 h⟩
    ·rw[hj];obtain⟨_,FP,hj2,hj3⟩:=UT hj;simp only[ZCo]at FP hj2 hj3;rw[←A7 (d:=U) FP]at hj2 hj3;have KV:=AX (d:=U) FP;simp only;have UE:∀d∈L,d.1=0→d.2.2.1=Al (L.getD i U).2.2.1→d=L.getD j U:=λd hd hd0 hd1=>hu d hd _ KV hd0 hj2 (hd1.trans hj3.symm);by_cases h1:(L.getD i U).2.2.2+(L.getD j U).2.2.2<0;·rw[yS h1];exact⟨λ_=>⟨_,_,Bq,KV,h0,hj2,hj3,h1⟩,λt' h=>by cases h⟩
     ·rw[yP h1];by_cases h2:(L.getD i U).2.2.2+(L.getD j U).2.2.2=0
      ·rw[yS h2];have Nw:Dm (·∈L) (L.getD i U):=⟨_,KV,hj2,hj3,h2⟩;have pH:=dM (hmk.gcd h0) hj3 h2;refine⟨λh=>(by cases h),λt' ht'=>?_⟩;cases ht';refine F2 (EW (L.getD i U)) (.inr ⟨_,Bq,h0,Nw,rfl⟩) _ (λk hk=>?_) ⟨λ_=>⟨λd hd hd0 hd1=>?_,λh=>absurd Nw h,λ_=>Ho _⟩,λh=>absurd h0 h⟩
       ·simp only[CA]at hk;by_cases Tp:(k:Int)=(j:Int)
        ·have :k=j:=by omega
         subst this;refine⟨FP,hj2,⟨_,Bq,h0,?_,by omega⟩,?_⟩;·rw[hj3,Ku]
         ·rw[pH];exact Ho _
        ·rw[yP Tp]at hk;exact hG' _ k hk
       ·rw[UE d hd hd0 hd1];omega
      ·rw[yP h2];have Nt:¬Dm (·∈L) (L.getD i U):=λ⟨d,hd,hd0,hd1,Ev⟩=>by rw[UE d hd hd0 hd1]at Ev;exact h2 Ev
       refine⟨λh=>(by cases h),λt' ht'=>?_⟩;cases ht';refine F2 _ (.inl ⟨Bq,λ_=>Nt⟩) _ (hG' _) ⟨λ_=>⟨λd hd hd0 hd1=>?_,λ_=>Ho _,λh=>absurd h Nt⟩,λh=>absurd h0 h⟩;rw[UE d hd hd0 hd1];omega
   ·rw[yS h0];refine⟨λh=>(by cases h),λt' ht'=>?_⟩;cases ht';exact F2 _ (.inl ⟨Bq,λh=>absurd h h0⟩) _ (hG' _) ⟨λh=>absurd h h0,λ_=>Ho _⟩);have Nx:E9 L=((Ha L).foldlM (GZ L) ([],λ_=>none)).map (·.1):=rfl;rw[Nx];rcases Co ((Ha L).foldlM (GZ L) ([],λ_=>none))with h|⟨st,h⟩;·rw[h];exact⟨λ_=>hinv.1 h,λout h=>by cases h⟩
 ·rw[h];refine⟨λh=>(by cases h),λout ho=>?_⟩;cases ho;obtain⟨hA,hB,hG⟩:=hinv.2 st h;rw[Jw]at hA;have hA':∀c∈L,(c.1=0→(∀d∈L,d.1=0→d.2.2.1=Al c.2.2.1→0≤c.2.2.2+d.2.2.2)∧(¬Dm (·∈L) c→c∈st.1)∧(Dm (·∈L) c→EW c∈st.1))∧(c.1≠0→c∈st.1):=λc hc=>by obtain⟨k,hk,rfl⟩:=HX (d:=U) hc;exact hA k hk hk
  refine⟨?_,λx=>⟨hB x,?_⟩⟩;·rintro⟨c,d,hc,hd,h0,h1,h2,h3⟩;have :=((hA' c hc).1 h0).1 d hd h1 h2;omega
  ·rintro(⟨hx,Cw⟩|⟨c,hc,h0,ho,rfl⟩)
   ·by_cases h0:x.1=0;·exact((hA' x hx).1 h0).2.1 (Cw h0)
    ·exact(hA' x hx).2 h0
   ·exact((hA' c hc).1 h0).2.2 ho
theorem Sm{C:List Int}{l:List O}(h:Da C l=none):∀e∈l,¬(e.1=1∧e.2.2.1=C):=by intro e he;simp only[Da,Option.map_eq_none_iff,List.find?_eq_none,List.mem_reverse,ZAp]at h;exact h e he
theorem Sn{n:Nat}{e f:O}(he:Mk n e)(hf:Mk n f)(h1:e.1=1)(h2:f.1=1):f.2.2.1≠Al e.2.2.1:=λh=>by have a:=he.1.2.2 h1;have b:=hf.1.2.2 h2;have g:=he.1.2.1 (by omega);rw[h,Pg (by omega),a]at b;cases b
theorem cG{n:Nat}{M:List O}(hm:∀c∈M,Mk n c):(FE M=none→GH (·∈M))∧∀out,FE M=some out→¬GH (·∈M)∧∀x,x∈out↔I9 (·∈M) x:=by
 have oE:∀{i:Nat}{e:O},e∈M.take i→e∈M:=λh=>zZ h;have h1:=S0 (V:=GH (·∈M)) (P:=λi seen=>seen=M.take i∧∀e∈M.take i,∀f∈M.take i,e.1=1→f.1=1→e.2.2.1=f.2.2.1→e.2.2.2=f.2.2.2) M U Gp [] ⟨rfl,by simp⟩ (by
  rintro i seen hi⟨rfl,hc⟩;have Bq:=AX (d:=U) hi;have C9:=BN U hi;have BG:∀c:O,(∀e∈M.take i,e.1=1→c.1=1→e.2.2.1=c.2.2.1→e.2.2.2=c.2.2.2)→∀e∈M.take i++[c],∀f∈M.take i++[c],e.1=1→f.1=1→e.2.2.1=f.2.2.1→e.2.2.2=f.2.2.2:=λc h e he f hf e1 f1 ef=>by
   simp only[zM,zC]at he hf;rcases he with he|rfl<;>rcases hf with hf|rfl;·exact hc e he f hf e1 f1 ef
   ·exact h e he e1 f1 ef
   ·exact(h f hf f1 e1 ef.symm).symm
   ·rfl
  rw[C9];unfold Gp;by_cases h0:(M.getD i U).1=1
  ·rw[yP λh=>h h0];rcases Co (Da (M.getD i U).2.2.1 (M.take i))with hq|⟨k,hq⟩;·rw[hq];have CQ:=Sm hq;refine⟨λh=>(by cases h),λt' ht'=>?_⟩;cases ht';exact⟨rfl,BG _ λe he e1 _ ee=>absurd ⟨e1,ee⟩ (CQ e he)⟩
   ·rw[hq];obtain⟨e,he,e1,e2,e3⟩:=Pe hq;simp only;by_cases hk:k=(M.getD i U).2.2.2;·rw[yP λh=>h hk];refine⟨λh=>(by cases h),λt' ht'=>?_⟩;cases ht';refine⟨rfl,BG _ λf hf f1 _ ff=>?_⟩;rw[hc f hf e he f1 e1 (ff.trans e2.symm),e3,hk]
    ·rw[yS hk];exact⟨λ_=>.inl ⟨e,_,oE he,Bq,e1,h0,e2,by rw[e3];exact hk⟩,λt' h=>by cases h⟩
  ·rw[yS h0];refine⟨λh=>(by cases h),λt' ht'=>?_⟩;cases ht';exact⟨rfl,BG _ λe he _ h _=>absurd h h0⟩);unfold FE;rcases Co (M.foldlM Gp [])with he|⟨seen,he⟩;·rw[he];exact⟨λ_=>h1.1 he,λout h=>by cases h⟩
 ·rw[he];simp only;obtain⟨_,DD⟩:=h1.2 seen he;rw[zA]at DD;clear h1 he;have h2:=S0 (V:=GH (·∈M)) (P:=λi out=>(∀x,x∈out↔x∈M.take i∧(x.1=0→∀e∈M,e.1=1→e.2.2.1≠x.2.2.1∧e.2.2.1≠Al x.2.2.1))∧∀c∈M.take i,c.1=0→∀e∈M,e.1=1→(e.2.2.1=c.2.2.1→e.2.2.2≤c.2.2.2)∧(e.2.2.1=Al c.2.2.1→0≤c.2.2.2+e.2.2.2)) M U (IZ M) [] ⟨by simp,by simp⟩ (by
   rintro i out hi⟨hA,hB⟩;have Bq:=AX (d:=U) hi;have C9:=BN U hi;have F2:((M.getD i U).1=0→∀e∈M,e.1=1→e.2.2.1≠(M.getD i U).2.2.1∧e.2.2.1≠Al (M.getD i U).2.2.1)→∀x,x∈out++[M.getD i U]↔x∈M.take i++[M.getD i U]∧(x.1=0→∀e∈M,e.1=1→e.2.2.1≠x.2.2.1∧e.2.2.1≠Al x.2.2.1):=λh x=>by
    simp only[zM,zC,hA];constructor
    ·rintro(⟨h1,h2⟩|rfl);·exact⟨.inl h1,h2⟩
     ·exact⟨.inr rfl,h⟩
    ·rintro⟨h1|h1,h2⟩;·exact .inl ⟨h1,h2⟩
     ·exact .inr h1
   have Yd:((M.getD i U).1=0∧∃e∈M,e.1=1∧(e.2.2.1=(M.getD i U).2.2.1∨e.2.2.1=Al (M.getD i U).2.2.1))→∀x,x∈out↔x∈M.take i++[M.getD i U]∧(x.1=0→∀e∈M,e.1=1→e.2.2.1≠x.2.2.1∧e.2.2.1≠Al x.2.2.1):=λ⟨h0,e,he,Dt,he2⟩x=>by
    simp only[zM,zC,hA];constructor;·rintro⟨h1,h2⟩;exact⟨.inl h1,h2⟩
    ·rintro⟨h1|rfl,h2⟩;·exact⟨h1,h2⟩
     ·have :=h2 h0 e he Dt;exact(he2.elim this.1 this.2).elim
   have BG:((M.getD i U).1=0→∀e∈M,e.1=1→(e.2.2.1=(M.getD i U).2.2.1→e.2.2.2≤(M.getD i U).2.2.2)∧(e.2.2.1=Al (M.getD i U).2.2.1→0≤(M.getD i U).2.2.2+e.2.2.2))→∀c∈M.take i++[M.getD i U],c.1=0→∀e∈M,e.1=1→(e.2.2.1=c.2.2.1→e.2.2.2≤c.2.2.2)∧(e.2.2.1=Al c.2.2.1→0≤c.2.2.2+e.2.2.2):=λh c hc=>by
    simp only[zM,zC]at hc;rcases hc with hc|rfl;·exact hB c hc
    ·exact h
   rw[C9];unfold IZ;by_cases h0:(M.getD i U).1=0
   ·rw[yP λh=>h h0];rcases Co (Da (M.getD i U).2.2.1 M)with hq|⟨k,hq⟩
    ·rw[hq];have CQ:=Sm hq;simp only;rcases Co (Da (Al (M.getD i U).2.2.1) M)with Ix|⟨k,Ix⟩;·rw[Ix];have Yx:=Sm Ix;refine⟨λh=>(by cases h),λt' ht'=>?_⟩;cases ht';exact⟨F2 λ_ e he e1=>⟨λh=>CQ e he ⟨e1,h⟩,λh=>Yx e he ⟨e1,h⟩⟩,BG λ_ e he e1=>⟨λh=>absurd ⟨e1,h⟩ (CQ e he),λh=>absurd ⟨e1,h⟩ (Yx e he)⟩⟩
     ·rw[Ix];obtain⟨e,he,e1,e2,e3⟩:=Pe Ix;simp only;by_cases hk:(M.getD i U).2.2.2+k<0;·rw[yS hk];exact⟨λ_=>.inr ⟨_,e,Bq,he,h0,e1,.inr ⟨e2,by rw[e3];exact hk⟩⟩,λt' h=>by cases h⟩
      ·rw[yP hk];refine⟨λh=>(by cases h),λt' ht'=>?_⟩;cases ht';refine⟨Yd ⟨h0,e,he,e1,.inr e2⟩,BG λ_ f hf f1=>⟨λh=>absurd ⟨f1,h⟩ (CQ f hf),λh=>?_⟩⟩;rw[DD f hf e he f1 e1 (h.trans e2.symm),e3];omega
    ·rw[hq];obtain⟨e,he,e1,e2,e3⟩:=Pe hq;simp only;by_cases hk:(M.getD i U).2.2.2<k;·rw[yS hk];exact⟨λ_=>.inr ⟨_,e,Bq,he,h0,e1,.inl ⟨e2,by rw[e3];exact hk⟩⟩,λt' h=>by cases h⟩
     ·rw[yP hk];refine⟨λh=>(by cases h),λt' ht'=>?_⟩;cases ht';refine⟨Yd ⟨h0,e,he,e1,.inl e2⟩,BG λ_ f hf f1=>⟨λh=>?_,λh=>?_⟩⟩;·rw[DD f hf e he f1 e1 (h.trans e2.symm),e3];omega
      ·exact absurd (e2▸h) (Sn (hm e he) (hm f hf) e1 f1)
   ·rw[yS h0];refine⟨λh=>(by cases h),λt' ht'=>?_⟩;cases ht';exact⟨F2 λh=>absurd h h0,BG λh=>absurd h h0⟩);refine⟨h2.1,λout ho=>?_⟩;obtain⟨hA,hB⟩:=h2.2 out ho;rw[zA]at hA hB;refine⟨?_,λx=>hA x⟩;rintro(⟨e,f,he,hf,e1,f1,ef,hk⟩|⟨c,e,hc,he,c0,e1,⟨h3,h4⟩|⟨h3,h4⟩⟩);·exact hk (DD e he f hf e1 f1 ef)
  ·have :=(hB c hc c0 e he e1).1 h3;omega
  ·have :=(hB c hc c0 e he e1).2 h3;omega
theorem bL{c:O}(h0:(AV c).2=0)(h1:(AV c).1.1=0):(AV c).1.2.1=0:=by
 have hs:∀b,(Cs b).2≠0:=λb=>by cases b<;>simp[Cs]
 unfold AV at*;split at h0
 ·rename_i hk;rw[yS hk];unfold FM at*;split;·rfl
  ·rfl
 ·rename_i hk;rw[yP hk]at h1⊢;split at h0
  ·rename_i hk2;rw[yS hk2]at h1⊢;unfold Bt at*;split;·rfl
   ·rfl
  ·rename_i hk2;rw[yP hk2]at h1⊢;unfold EJ at*;split at h1;·rename_i ha;rw[yS ha];rfl
   ·rename_i ha;rw[yP ha];split at h1;·rename_i hb;rw[yS hb];rfl
    ·cases h1
theorem Oa{p:List O}{n:Nat}(h:A2 p)(hd:Am p n):∀c∈Ai p,Mk n c:=by intro c hc;refine⟨bN h hd c hc,((Qq h).2 c hc).k3,λh0=>?_⟩;simp only[Ai,ZAb,ZBy]at hc;obtain⟨r,⟨⟨d,Ev,rfl⟩,hr⟩,rfl⟩:=hc;exact bL (by simpa using hr) h0
theorem uQ{a b:List O}(h:K3 a)(hab:∀x,x∈a↔x∈b):Au a=Au b:=by have hb:K3 b:=λc hc=>h c ((hab c).2 hc);exact RU (Q0 h) (Q0 hb) λc=>by rw[Jr h,Jr hb,hab]
theorem Z7{n:Nat}{d c:O}(h:Mk n d):Mk n (Cn d c.2.2.2):=h
theorem RB{p:List O}{n:Nat}(hb:A2 p)(hd:Am p n)(hv:CD p=false):(G2 (Lm (Ai p))∨GH (MM (Lm (Ai p)))→Aa p=([],true,0))∧(¬G2 (Lm (Ai p))→¬GH (MM (Lm (Ai p)))→∀m,(∀x,x∈m↔I9 (MM (Lm (Ai p))) x)→Aa p=if((Ai p).any (λc=>!AJ c)||decide (96<(Au m).length))=true then([],false,3)else(Au m,false,0)):=by
 have hl:=Oa hb hd;have e:(λx=>x∈B8 (Ai p))=Lm (Ai p):=funext λx=>propext (MR hl x);have hL:∀c∈B8 (Ai p),Mk n c:=QU (λd c hd _=>Z7 hd) hl;have hu:RV (B8 (Ai p)):=λc hc d hd h0 h1 h=>Lm.uniq hl ((MR hl c).1 hc) ((MR hl d).1 hd) h0 h1 h;obtain⟨Kf,Iw⟩:=bB hL hu;rw[e]at Kf Iw;have ht:=If p;rw[hv]at ht;simp only[zY,ZAY]at ht;rcases Co (E9 (B8 (Ai p)))with h1|⟨M,h1⟩;·rw[h1]at ht;exact⟨λ_=>ht,λh=>absurd (Kf h1) h⟩
 ·obtain⟨Ke,hM⟩:=Iw M h1;have eM:(λx=>x∈M)=MM (Lm (Ai p)):=funext λx=>propext (hM x);have Fv:∀c∈M,Mk n c:=Uz (λc h0 hc=>(Hy hc h0).1) hL h1;obtain⟨C8,Eb⟩:=cG Fv;rw[eM]at C8 Eb;rw[h1,ZAv]at ht;rcases Co (FE M)with h2|⟨out,h2⟩;·rw[h2]at ht;exact⟨λ_=>ht,λ_ h=>absurd (C8 h2) h⟩
  ·obtain⟨T1,hO⟩:=Eb out h2;rw[h2]at ht;refine⟨λh=>(h.elim Ke T1).elim,λ_ _ m hm=>?_⟩;have Ex:K3 out:=λc hc=>(cE (P:=Mk n) Fv h2 c hc).2.1;have :Au out=Au m:=uQ Ex λx=>by rw[hO,hm]
   rw[←this];exact ht
theorem V9{l:List O}{x:O}(h0:x.1≠0):Lm l x↔x∈l:=⟨λh=>h.1,λh=>⟨h,λe=>absurd e h0⟩⟩
theorem Me{a b:O}:By a b=1↔a.2.2.1=b.2.2.1:=by
 unfold By;split;·rename_i h;exact⟨λ_=>h,λ_=>rfl⟩
 ·rename_i h;split;·exact⟨λh=>(by cases h),λe=>absurd e h⟩
  ·exact⟨λh=>(by cases h),λe=>absurd e h⟩
theorem Qx{a b:O}(h:AO a.2.2.1=1):By a b=-1↔b.2.2.1=Al a.2.2.1:=by
 unfold By;split;·rename_i h1;exact⟨λh=>(by cases h),λe=>absurd (e.symm.trans h1.symm) (aK h)⟩
 ·split;·rename_i h2;exact⟨λ_=>by rw[h2,Ku],λ_=>rfl⟩
  ·rename_i h2;exact⟨λh=>(by cases h),λe=>absurd (by rw[e,Ku]) h2⟩
theorem Qy{a b:O}:By a b=0↔a.2.2.1≠b.2.2.1∧a.2.2.1≠Al b.2.2.1:=by
 unfold By;split;·rename_i h1;exact⟨λh=>(by cases h),λe=>absurd h1 e.1⟩
 ·rename_i h1;split;·rename_i h2;exact⟨λh=>(by cases h),λe=>absurd h2 e.2⟩
  ·rename_i h2;exact⟨λ_=>⟨h1,h2⟩,λ_=>rfl⟩
def Gc(out:List O)(c:O):List O:=out.map λd=>if d.2.2.1=c.2.2.1 then Cn d c.2.2.2 else d
def I4(out:List O)(c:O):Bool:=out.any λd=>decide (d.2.2.1=c.2.2.1)
def VK(out:List O)(c:O):List O:=if I4 out c=true then Gc out c else out++[c]
theorem tR{n:Nat}{m out:List O}{c:O}(hm:∀d∈m,Mk n d∧d.1=0)(hc:Mk n c)(h0:c.1=0)(ho:∀x,x∈out↔Lm m x)(x:O):x∈VK out c↔Lm (m++[c]) x:=by
 rw[RR (λd hd=>(hm d hd).1) hc h0];have hg:∀d∈out,d.1=0:=λd hd=>(hm d ((ho d).1 hd).1).2;unfold VK;by_cases hh:I4 out c=true
 ·rw[yS hh];obtain⟨e,he,Dt⟩:=List.any_eq_true.1 hh;simp only[ZAp]at Dt;simp only[Gc,ZAb];constructor
  ·rintro⟨d,hd,rfl⟩;by_cases h1:d.2.2.1=c.2.2.1;·rw[yS h1];exact .inr ⟨hg d hd,h1,.inl ⟨d,(ho d).1 hd,hg d hd,h1,rfl⟩⟩
   ·rw[yP h1];exact .inl ⟨(ho d).1 hd,λh=>h1 h.2⟩
  ·rintro(⟨hx,CU⟩|⟨QK,CU,⟨d,hd,hd0,hd1,rfl⟩|⟨hex,rfl⟩⟩);·refine⟨x,(ho x).2 hx,yP λh=>CU ⟨hg x ((ho x).2 hx),h⟩⟩
   ·exact⟨d,(ho d).2 hd,yS hd1⟩
   ·exact absurd ⟨e,(ho e).1 he,hg e he,Dt⟩ hex
 ·rw[yP hh];have CQ:∀d∈out,d.2.2.1≠c.2.2.1:=λd hd h=>hh (List.any_eq_true.2 ⟨d,hd,yO h⟩);simp only[zM,zC];constructor
  ·rintro(hx|rfl);·exact .inl ⟨(ho x).1 hx,λh=>CQ x hx h.2⟩
   ·exact .inr ⟨h0,rfl,.inr ⟨λ⟨d,hd,hd0,hd1⟩=>CQ d ((ho d).2 hd) hd1,rfl⟩⟩
  ·rintro(⟨hx,CU⟩|⟨QK,CU,⟨d,hd,hd0,hd1,rfl⟩|⟨hex,rfl⟩⟩);·exact .inl ((ho x).2 hx)
   ·exact absurd hd1 (CQ d ((ho d).2 hd))
   ·exact .inr rfl
def Ek(N i j a b:Nat):Prop:=a<b∧b<N∧(a<i∨a=i∧b<j)
theorem Kz{N i j a b:Nat}(h:i<j)(hj:j<N):Ek N i (j+1) a b↔Ek N i j a b∨a=i∧b=j:=by unfold Ek;omega
theorem VA{N i a b:Nat}:Ek N i N a b↔Ek N (i+1) (i+2) a b:=by unfold Ek;omega
theorem U9{N a b:Nat}:¬Ek N 0 1 a b:=by unfold Ek;omega
theorem sU{N i a b:Nat}(h:N≤i):Ek N i (i+1) a b↔a<b∧b<N:=by unfold Ek;omega
def Jl(G:List O)(a b:Nat):Prop:=By (G.getD a U) (G.getD b U)=-1∧(G.getD a U).2.2.2+(G.getD b U).2.2.2=0
structure FJ(G eq:List O)(i j:Nat)(eqs:List O)(gone:List Bool):Prop where
 nn:∀a b,Ek G.length i j a b→By (G.getD a U) (G.getD b U)=-1→0≤(G.getD a U).2.2.2+(G.getD b U).2.2.2
 ee:∀x,x∈eqs↔x∈eq∨∃a b,Ek G.length i j a b∧Jl G a b∧x=EW (G.getD a U)
 gl:gone.length=G.length
 gg:∀k,k<G.length→(gone.getD k false=true↔∃a b,Ek G.length i j a b∧Jl G a b∧(k=a∨k=b))
theorem FJ.nil(G eq:List O):FJ G eq 0 1 eq (List.replicate G.length false):=⟨λa b h=>absurd h U9,λx=>⟨.inl,λh=>h.elim id λ⟨a,b,h,_⟩=>absurd h U9⟩,by simp,λk hk=>by rw[A7 (by simpa using hk)];simp only[List.getElem_replicate,zY,false_iff];rintro⟨a,b,h,_⟩;exact U9 h⟩
theorem FJ.row{G eq:List O}{i:Nat}{eqs:List O}{gone:List Bool}(h:FJ G eq i G.length eqs gone):FJ G eq (i+1) (i+2) eqs gone:=⟨λa b h1=>h.nn a b (VA.2 h1),λx=>(h.ee x).trans (by simp only[VA]),h.gl,λk hk=>(h.gg k hk).trans (by simp only[VA])⟩
theorem FJ.skip{G eq:List O}{i j:Nat}{eqs:List O}{gone:List Bool}(h:FJ G eq i j eqs gone)(hij:i<j)(hj:j<G.length)(hs:By (G.getD i U) (G.getD j U)=-1→0<(G.getD i U).2.2.2+(G.getD j U).2.2.2):FJ G eq i (j+1) eqs gone:=by
 have CQ:¬Jl G i j:=λ⟨h1,h2⟩=>by have :=hs h1;omega
 have hex:∀P:Nat→Nat→Prop,(∃a b,Ek G.length i (j+1) a b∧Jl G a b∧P a b)↔∃a b,Ek G.length i j a b∧Jl G a b∧P a b:=λP=>by
  constructor
  ·rintro⟨a,b,h1,h2,h3⟩;rcases(Kz hij hj).1 h1 with h1|⟨rfl,rfl⟩;·exact⟨a,b,h1,h2,h3⟩
   ·exact absurd h2 CQ
  ·rintro⟨a,b,h1,h2,h3⟩;exact⟨a,b,(Kz hij hj).2 (.inl h1),h2,h3⟩
 refine⟨λa b h1 h2=>?_,λx=>(h.ee x).trans (ZCw ZCR (hex _).symm),h.gl,λk hk=>(h.gg k hk).trans (hex _).symm⟩;rcases(Kz hij hj).1 h1 with h1|⟨rfl,rfl⟩;·exact h.nn a b h1 h2
 ·have :=hs h2;omega
theorem FJ.put{G eq:List O}{i j:Nat}{eqs:List O}{gone:List Bool}(h:FJ G eq i j eqs gone)(hij:i<j)(hj:j<G.length)(hs:Jl G i j):FJ G eq i (j+1) (eqs++[EW (G.getD i U)]) ((gone.set i true).set j true):=by
 have hex:∀P:Nat→Nat→Prop,(∃a b,Ek G.length i (j+1) a b∧Jl G a b∧P a b)↔(∃a b,Ek G.length i j a b∧Jl G a b∧P a b)∨P i j:=λP=>by
  constructor
  ·rintro⟨a,b,h1,h2,h3⟩;rcases(Kz hij hj).1 h1 with h1|⟨rfl,rfl⟩;·exact .inl ⟨a,b,h1,h2,h3⟩
   ·exact .inr h3
  ·rintro(⟨a,b,h1,h2,h3⟩|h3);·exact⟨a,b,(Kz hij hj).2 (.inl h1),h2,h3⟩
   ·exact⟨i,j,(Kz hij hj).2 (.inr ⟨rfl,rfl⟩),hs,h3⟩
 refine⟨λa b h1 h2=>?_,λx=>?_,by simpa using h.gl,λk hk=>?_⟩
 ·rcases(Kz hij hj).1 h1 with h1|⟨rfl,rfl⟩;·exact h.nn a b h1 h2
  ·have :=hs.2;omega
 ·rw[hex,zM,zC,h.ee,ZDd]
 ·rw[hex,←h.gg k hk];have Hl:=h.gl;rw[A7 (by simp;omega)];by_cases h1:j=k;·subst h1;rw[ZBP];exact⟨λ_=>.inr (.inr rfl),λ_=>rfl⟩
  ·rw[ZBX h1];by_cases h2:i=k;·subst h2;rw[ZBP];exact⟨λ_=>.inr (.inl rfl),λ_=>rfl⟩
   ·rw[ZBX h2,A7 (show k<gone.length by omega)];exact⟨.inl,λh=>h.elim id λh=>by omega⟩
structure WB(L:O→Prop)(G eqs:List O)(gone:List Bool):Prop where
 nv:¬G2 L
 ee:∀x,x∈eqs↔MM L x∧x.1=1
 gl:gone.length=G.length
 gg:∀k,k<G.length→(gone.getD k false=true↔Dm L (G.getD k U))
theorem FJ.done{n:Nat}{l G eq:List O}{eqs:List O}{gone:List Bool}(hl:∀c∈l,Mk n c)(hG:∀x,x∈G↔Lm l x∧x.1=0)(hq:∀x,x∈eq↔x∈l∧x.1=1)(h:FJ G eq G.length (G.length+1) eqs gone):WB (Lm l) G eqs gone:=by
 have hmk:∀a,a<G.length→Mk n (G.getD a U)∧(G.getD a U).1=0∧Lm l (G.getD a U):=λa ha=>by have :=(hG _).1 (AX (d:=U) ha);exact⟨hl _ this.1.1,this.2,this.1⟩
 have JW:∀a b,a<G.length→b<G.length→(By (G.getD a U) (G.getD b U)=-1↔(G.getD b U).2.2.1=Al (G.getD a U).2.2.1):=λa b ha hb=>Qx ((hmk a ha).1.gcd (hmk a ha).2.1);have QH:∀a b,a<G.length→b<G.length→(G.getD b U).2.2.1=Al (G.getD a U).2.2.1→(G.getD a U).2.2.1=Al (G.getD b U).2.2.1:=λa b ha hb h=>by rw[h,Ku]
 have Ab:∀a b,a<G.length→b<G.length→(G.getD b U).2.2.1=Al (G.getD a U).2.2.1→a≠b:=λa b ha hb h e=>by subst e;exact aK ((hmk a ha).1.gcd (hmk a ha).2.1) h.symm
 have Ea:∀a b,Ek G.length G.length (G.length+1) a b↔a<b∧b<G.length:=λa b=>sU (zB _);have TN:∀k,k<G.length→(Dm (Lm l) (G.getD k U)↔∃b,b<G.length∧(G.getD b U).2.2.1=Al (G.getD k U).2.2.1∧(G.getD k U).2.2.2+(G.getD b U).2.2.2=0):=λk hk=>by
  constructor;·rintro⟨d,hd,hd0,hd1,Ev⟩;obtain⟨b,hb,rfl⟩:=HX (d:=U) ((hG d).2 ⟨hd,hd0⟩);exact⟨b,hb,hd1,Ev⟩
  ·rintro⟨b,hb,h1,h2⟩;exact⟨_,(hmk b hb).2.2,(hmk b hb).2.1,h1,h2⟩
 refine⟨?_,λx=>?_,h.gl,λk hk=>?_⟩
 ·rintro⟨c,d,hc,hd,c0,d0,NX,AY⟩;obtain⟨a,ha,rfl⟩:=HX (d:=U) ((hG c).2 ⟨hc,c0⟩);obtain⟨b,hb,rfl⟩:=HX (d:=U) ((hG d).2 ⟨hd,d0⟩);rcases ZCO (Ab a b ha hb NX)with hab|hab;·have :=h.nn a b ((Ea a b).2 ⟨hab,hb⟩) ((JW a b ha hb).2 NX);omega
  ·have :=h.nn b a ((Ea b a).2 ⟨hab,ha⟩) ((JW b a hb ha).2 (QH a b ha hb NX));omega
 ·rw[h.ee,hq];constructor
  ·rintro(⟨h1,h2⟩|⟨a,b,h1,⟨h2,h3⟩,rfl⟩);·exact⟨.inl ⟨(V9 (by omega)).2 h1,λh=>by omega⟩,h2⟩
   ·have ha:a<G.length:=by have :=(Ea a b).1 h1;omega
    have hb:b<G.length:=by have :=(Ea a b).1 h1;omega
    exact⟨.inr ⟨_,(hmk a ha).2.2,(hmk a ha).2.1,(TN a ha).2 ⟨b,hb,(JW a b ha hb).1 h2,h3⟩,rfl⟩,(Hy (hmk a ha).1 (hmk a ha).2.1).2⟩
  ·rintro⟨⟨h1,h2⟩|⟨c,hc,c0,ho,rfl⟩,hx1⟩;·exact .inl ⟨h1.1,hx1⟩
   ·obtain⟨k,hk,rfl⟩:=HX (d:=U) ((hG c).2 ⟨hc,c0⟩);obtain⟨b,hb,h3,h4⟩:=(TN k hk).1 ho;right;rcases ZCO (Ab k b hk hb h3)with JS|JS;·exact⟨k,b,(Ea k b).2 ⟨JS,hb⟩,⟨(JW k b hk hb).2 h3,h4⟩,rfl⟩
    ·exact⟨b,k,(Ea b k).2 ⟨JS,hk⟩,⟨(JW b k hb hk).2 (QH k b hk hb h3),by omega⟩,(dM ((hmk k hk).1.gcd c0) h3 h4).symm⟩
 ·rw[h.gg k hk,TN k hk];constructor
  ·rintro⟨a,b,h1,⟨h2,h3⟩,h4⟩;have ha:a<G.length:=by have :=(Ea a b).1 h1;omega
   have hb:b<G.length:=by have :=(Ea a b).1 h1;omega
   have h5:=(JW a b ha hb).1 h2;rcases h4 with rfl|rfl;·exact⟨b,hb,h5,h3⟩
   ·exact⟨a,ha,QH a k ha hb h5,by omega⟩
  ·rintro⟨b,hb,h3,h4⟩;rcases ZCO (Ab k b hk hb h3)with JS|JS;·exact⟨k,b,(Ea k b).2 ⟨JS,hb⟩,⟨(JW k b hk hb).2 h3,h4⟩,.inl rfl⟩
   ·exact⟨b,k,(Ea b k).2 ⟨JS,hk⟩,⟨(JW b k hb hk).2 (QH k b hk hb h3),by omega⟩,.inr rfl⟩
structure H2(G E:List O)(gone0:List Bool)(i:Nat)(gone:List Bool):Prop where
 cc:∀a b,a<i→b<i→(E.getD a U).2.2.1=(E.getD b U).2.2.1→(E.getD a U).2.2.2=(E.getD b U).2.2.2
 nn:∀k,k<G.length→gone0.getD k false=false→∀a,a<i→((E.getD a U).2.2.1=(G.getD k U).2.2.1→(E.getD a U).2.2.2≤(G.getD k U).2.2.2)∧((E.getD a U).2.2.1=Al (G.getD k U).2.2.1→0≤(G.getD k U).2.2.2+(E.getD a U).2.2.2)
 gl:gone.length=G.length
 gg:∀k,k<G.length→(gone.getD k false=true↔gone0.getD k false=true∨∃a,a<i∧By (E.getD a U) (G.getD k U)≠0)
theorem H2.nil{G E:List O}{gone0:List Bool}(h:gone0.length=G.length):H2 G E gone0 0 gone0:=⟨λa b h=>absurd h (by omega),λk _ _ a h=>absurd h (by omega),h,λk hk=>⟨.inl,λh=>h.elim id λ⟨a,h,_⟩=>absurd h (by omega)⟩⟩
structure Gz(G E:List O)(gone0:List Bool)(i j:Nat)(gone1 gone:List Bool):Prop where
 nn:∀k,k<j→gone0.getD k false=false→((E.getD i U).2.2.1=(G.getD k U).2.2.1→(E.getD i U).2.2.2≤(G.getD k U).2.2.2)∧((E.getD i U).2.2.1=Al (G.getD k U).2.2.1→0≤(G.getD k U).2.2.2+(E.getD i U).2.2.2)
 gl:gone.length=G.length
 gg:∀k,k<G.length→(gone.getD k false=true↔gone1.getD k false=true∨k<j∧By (E.getD i U) (G.getD k U)≠0)
theorem H2.row{G E:List O}{gone0:List Bool}{i:Nat}{gone1 gone:List Bool}(h:H2 G E gone0 i gone1)(hc:∀a,a<i→(E.getD i U).2.2.1=(E.getD a U).2.2.1→(E.getD i U).2.2.2=(E.getD a U).2.2.2)(hr:Gz G E gone0 i G.length gone1 gone):H2 G E gone0 (i+1) gone:=by
 refine⟨λa b ha hb hab=>?_,λk hk h0 a ha=>?_,hr.gl,λk hk=>?_⟩
 ·rcases ZAn a i with h1|h1<;>rcases ZAn b i with h2|h2;·exact h.cc a b h1 h2 hab
  ·have :b=i:=by omega
   subst this;exact(hc a h1 hab.symm).symm
  ·have :a=i:=by omega
   subst this;exact hc b h2 hab
  ·have :a=b:=by omega
   rw[this]
 ·rcases ZAn a i with h1|h1;·exact h.nn k hk h0 a h1
  ·have :a=i:=by omega
   subst this;exact hr.nn k hk h0
 ·rw[hr.gg k hk,h.gg k hk,ZDd];refine ZCw ZCR ⟨?_,?_⟩
  ·rintro(⟨a,ha,h1⟩|⟨_,h1⟩);·exact⟨a,by omega,h1⟩
   ·exact⟨i,by omega,h1⟩
  ·rintro⟨a,ha,h1⟩;rcases ZAn a i with h2|h2;·exact .inl ⟨a,h2,h1⟩
   ·have :a=i:=by omega
    subst this;exact .inr ⟨hk,h1⟩
theorem Gz.nil{G E:List O}{gone0 gone1:List Bool}{i:Nat}(h:gone1.length=G.length):Gz G E gone0 i 0 gone1 gone1:=⟨λk h=>absurd h (by omega),h,λk hk=>⟨.inl,λh=>h.elim id λ⟨h,_⟩=>absurd h (by omega)⟩⟩
theorem Gz.skip{n:Nat}{G E:List O}{gone0 gone1 gone:List Bool}{i j:Nat}(hE:∀a,a≤i→Mk n (E.getD a U)∧(E.getD a U).1=1)(hI:H2 G E gone0 i gone1)(hc:∀a,a<i→(E.getD i U).2.2.1=(E.getD a U).2.2.1→(E.getD i U).2.2.2=(E.getD a U).2.2.2)(h:Gz G E gone0 i j gone1 gone)(hj:j<G.length)(hs:gone.getD j false=true∨By (E.getD i U) (G.getD j U)=0):Gz G E gone0 i (j+1) gone1 gone:=by
 have EM:∀{u v:List Int},u=Al v→v=Al u:=λ{u v}h=>by rw[h,Ku]
 refine⟨λk hk h0=>?_,h.gl,λk hk=>?_⟩
 ·rcases ZAn k j with h1|h1;·exact h.nn k h1 h0
  ·have :k=j:=by omega
   subst this;rcases hs with hs|hs
   ·rcases(h.gg k hj).1 hs with h2|h2
    ·rcases(hI.gg k hj).1 h2 with h3|⟨a,ha,h3⟩;·rw[h0]at h3;cases h3
     ·have hn:=hI.nn k hj h0 a ha;obtain⟨ma,a1⟩:=hE a (by omega);obtain⟨mi,i1⟩:=hE i (zB _);have h4:(E.getD a U).2.2.1=(G.getD k U).2.2.1∨(E.getD a U).2.2.1=Al (G.getD k U).2.2.1:=by
       rcases ZCe ((E.getD a U).2.2.1=(G.getD k U).2.2.1)with h5|h5;·exact .inl h5
       ·rcases ZCe ((E.getD a U).2.2.1=Al (G.getD k U).2.2.1)with h6|h6;·exact .inr h6
        ·exact absurd (Qy.2 ⟨h5,h6⟩) h3
      constructor
      ·intro h5;rcases h4 with h4|h4;·rw[hc a ha (h5.trans h4.symm)];exact hn.1 h4
       ·exact absurd (h5▸h4) (Sn mi ma i1 a1)
      ·intro h5;rcases h4 with h4|h4;·exact absurd (h4▸h5) (Sn ma mi a1 i1)
       ·rw[hc a ha (h5.trans h4.symm)];exact hn.2 h4
    ·omega
   ·have :=Qy.1 hs;exact⟨λh=>absurd h this.1,λh=>absurd h this.2⟩
 ·rw[h.gg k hk];constructor
  ·rintro(h1|⟨h1,h2⟩);·exact .inl h1
   ·exact .inr ⟨by omega,h2⟩
  ·rintro(h1|⟨h1,h2⟩);·exact .inl h1
   ·rcases ZAn k j with h3|h3;·exact .inr ⟨h3,h2⟩
    ·have :k=j:=by omega
     subst this;rcases hs with hs|hs;·exact(h.gg k hk).1 hs
     ·exact absurd hs h2
theorem Gz.put{G E:List O}{gone0 gone1 gone:List Bool}{i j:Nat}(h:Gz G E gone0 i j gone1 gone)(hj:j<G.length)(hs:By (E.getD i U) (G.getD j U)≠0)(hn:0≤(G.getD j U).2.2.2-By (E.getD i U) (G.getD j U)*(E.getD i U).2.2.2)(hg:AO (E.getD i U).2.2.1=1):Gz G E gone0 i (j+1) gone1 (gone.set j true):=by
 have Hl:=h.gl;refine⟨λk hk h0=>?_,by simpa using Hl,λk hk=>?_⟩
 ·rcases ZAn k j with h1|h1;·exact h.nn k h1 h0
  ·have :k=j:=by omega
   subst this;constructor;·intro h5;rw[Me.2 h5]at hn;omega
   ·intro h5;rw[(Qx hg).2 (by rw[h5,Ku])]at hn;omega
 ·rw[A7 (by simp;omega)];by_cases h1:j=k;·subst h1;rw[ZBP];exact⟨λ_=>.inr ⟨by omega,hs⟩,λ_=>rfl⟩
  ·rw[ZBX h1,←A7 (d:=false) (show k<gone.length by omega),h.gg k hk];exact ZCw ZCR ⟨λh=>⟨by omega,h.2⟩,λh=>⟨by omega,h.2⟩⟩
theorem H2.done{n:Nat}{l G E:List O}{gone0 gone:List Bool}(hl:∀c∈l,Mk n c)(hG:∀x,x∈G↔Lm l x∧x.1=0)(hp:WB (Lm l) G E gone0)(h:H2 G E gone0 E.length gone){m:List O}(hm:∀x,x∈m↔x∈E∨(∃k,k<G.length∧gone.getD k false=false∧x=G.getD k U)∨x∈l∧x.1=2):¬GH (MM (Lm l))∧∀x,x∈m↔I9 (MM (Lm l)) x:=by
 have Fv:∀c,MM (Lm l) c→c.1=0→c∈G∧¬Dm (Lm l) c:=λc hc c0=>by
  rcases hc with⟨h1,h2⟩|⟨d,hd,d0,_,rfl⟩;·exact⟨(hG c).2 ⟨h1,c0⟩,h2 c0⟩
  ·have :=(Hy (hl d hd.1) d0).2;omega
 have P6:∀c,MM (Lm l) c→c.1=0→∃k,k<G.length∧c=G.getD k U∧gone0.getD k false=false:=λc hc c0=>by obtain⟨h1,h2⟩:=Fv c hc c0;obtain⟨k,hk,rfl⟩:=HX (d:=U) h1;refine⟨k,hk,rfl,?_⟩;cases hb:gone0.getD k false with|false=>rfl|true=>exact absurd ((hp.gg k hk).1 hb) h2
 have H9:∀e,MM (Lm l) e→e.1=1→∃a,a<E.length∧e=E.getD a U:=λe he e1=>by obtain⟨a,ha,h⟩:=HX (d:=U) ((hp.ee e).2 ⟨he,e1⟩);exact⟨a,ha,h.symm⟩
 refine⟨?_,λx=>?_⟩
 ·rintro(⟨e,f,he,hf,e1,f1,ef,hk⟩|⟨c,e,hc,he,c0,e1,T4⟩);·obtain⟨a,ha,rfl⟩:=H9 e he e1;obtain⟨b,hb,rfl⟩:=H9 f hf f1;exact hk (h.cc a b ha hb ef)
  ·obtain⟨a,ha,rfl⟩:=H9 e he e1;obtain⟨k,hk,rfl,GP⟩:=P6 c hc c0;have :=h.nn k hk GP a ha;rcases T4 with⟨h1,h2⟩|⟨h1,h2⟩;·have :=this.1 h1;omega
   ·have :=this.2 h1;omega
 ·rw[hm];constructor
  ·rintro(hx|⟨k,hk,hg,rfl⟩|⟨hx,x2⟩);·obtain⟨h1,h2⟩:=(hp.ee x).1 hx;exact⟨h1,λh=>by omega⟩
   ·have h0:¬(gone0.getD k false=true∨∃a,a<E.length∧By (E.getD a U) (G.getD k U)≠0):=λh1=>by rw[(h.gg k hk).2 h1]at hg;cases hg
    rw[ZAX]at h0;have Lv:=(hG _).1 (AX (d:=U) hk);refine⟨.inl ⟨Lv.1,λ_ ho=>h0.1 ((hp.gg k hk).2 ho)⟩,λ_ e he e1=>?_⟩;obtain⟨a,ha,rfl⟩:=H9 e he e1;have :By (E.getD a U) (G.getD k U)=0:=by
     rcases ZCe (By (E.getD a U) (G.getD k U)=0)with h1|h1;·exact h1
     ·exact absurd ⟨a,ha,h1⟩ h0.2
    exact Qy.1 this
   ·exact⟨.inl ⟨(V9 (by omega)).2 hx,λh=>by omega⟩,λh=>by omega⟩
  ·rintro⟨hx,Cw⟩;have Ex:GW x.1:=by
    rcases hx with⟨h1,_⟩|⟨d,hd,d0,_,rfl⟩;·exact(hl x h1.1).2.1
    ·exact .inr (.inl (Hy (hl d hd.1) d0).2)
   rcases Ex with x0|x1|x2;·obtain⟨k,hk,rfl,GP⟩:=P6 x hx x0;refine .inr (.inl ⟨k,hk,?_,rfl⟩);cases hb:gone.getD k false with|false=>rfl|true=>
    rcases(h.gg k hk).1 hb with h1|⟨a,ha,h1⟩;·rw[GP]at h1;cases h1
    ·obtain⟨h2,h3⟩:=(hp.ee _).1 (AX (d:=U) ha);exact absurd (Qy.2 (Cw x0 _ h2 h3)) h1
   ·exact .inl ((hp.ee x).2 ⟨hx,x1⟩)
   ·rcases hx with⟨h1,_⟩|⟨d,hd,d0,_,rfl⟩;·exact .inr (.inr ⟨h1.1,x2⟩)
    ·have :=(Hy (hl d hd.1) d0).2;omega
end Go.Proofs.YtldikbpclaeajaaGreatDoor
