/- Part of a proof that a law of the program holds for every input: what the functions answer, in plain Lean. No conditions. -/
import Derived.Test.YtgpdnmfpgkkgcaaGreatDoorP11
namespace Go.Proofs.YtgpdnmfpgkkgcaaGreatDoor
open Go
set_option linter.unusedVariables false
theorem ZbW{α τ:Type}{f:τ→α→Option τ}{l:List α}{d:α}{i:Nat}{a t:τ}(h:(l.take i).foldlM f a=some t)(hi:i < l.length):(l.take (i+1)).foldlM f a=f t (l.getD i d):=by
 rw[Zy d hi,List.foldlM_append,h]
 show (f _ _).bind _=_
 cases f t (l.getD i d)<;>rfl
theorem Zcx{α τ:Type}{f:τ→α→Option τ}{l:List α}{d:α}{i:Nat}{a t:τ}(h:(l.take i).foldlM f a=some t)(hi:i < l.length)(hn:f t (l.getD i d)=none):l.foldlM f a=none:=by
 rw[← List.take_append_drop (i+1) l,List.foldlM_append,ZbW (d:=d) h hi,hn]
 rfl
def ZeG(out:List (List Zc))(m:ByteArray→Option Bool):Prop:=∀ q,m (Zce (ZcN q))=if q∈out then some true else none
theorem ZeG.nil:ZeG [] fun _=>none:=fun q=>by simp
theorem ZeG.put{out:List (List Zc)}{m:ByteArray→Option Bool}(h:ZeG out m)(p:List Zc):ZeG (out++[p]) (ZdP m (Zce (ZcN p)) true):=by
 intro q
 simp only[ZdP,ZpP,List.mem_append,List.mem_singleton]
 by_cases e:q=p
 ·rw[if_pos e,if_pos (.inr e)]
 ·rw[if_neg e,h q]
  by_cases e2:q∈out
  ·rw[if_pos e2,if_pos (.inl e2)]
  ·rw[if_neg e2,if_neg (fun h=>h.elim e2 e)]
theorem Zes {p : List Zc} {out : List (List Zc)} {m : ByteArray → Option Bool} {EA K1 EB K2 : Prop} (hp : Zay p) (hk : ZeG out m) (hl : out.length ≤ 400)
 (hA:(Z9 p).2.2=3→Z6 out p=none→EA) (h1:Z6 out p=some out→K1) (hB:Z6 out p=none→EB) (h2:Z6 out p=some (out++[(Z9 p).1])→K2) :
 (Zb.pre (p,())∧cond (((Zb.fn (p,())).2).2 != (0:Int)) EA (((!(((Zb.fn (p,())).2).1))=true→((!(((Zb.fn (p,())).2).1))=true∧Zq.pre ((Zb.fn (p,())).1,())))∧(((!(((Zb.fn (p,())).2).1))=true→((!(((Zb.fn (p,())).2).1))=true∧((!(((Zb.fn (p,())).2).1))=true∧True)))∧((((Zb.fn (p,())).2).1=false→(!(((Zb.fn (p,())).2).1))=true)∧cond (((Zb.fn (p,())).2).1||(Option.getD (m (Zq.fn ((Zb.fn (p,())).1,()))) false)) K1 (Zq.pre ((Zb.fn (p,())).1,())∧((((List.length out+List.length [(Zb.fn (p,())).1])*24)≤140737488355328∧(List.length out+List.length [(Zb.fn (p,())).1])≤9223372036854775807)∧cond (decide ((400:Int) < (((List.length (out++[(Zb.fn (p,())).1])):Nat):Int))) EB K2)))))):=by
 have hn:Zq.pre ((Z9 p).1,()):=(Zpk hp).name
 refine⟨hp,?_⟩
 simp only[Zb.fn,Zq.fn]
 by_cases he:(Z9 p).2.2=0
 ·simp only[he,bne_self_eq_false,cond_false]
  have hs:Z6 out p=if (Z9 p).2.1=true∨(Z9 p).1∈out then some out else if 400 < out.length+1 then none else some (out++[(Z9 p).1]):=by
   unfold Z6;exact if_neg (fun h=>h he)
  refine⟨fun h=>⟨h,hn⟩,fun h=>⟨h,h,trivial⟩,fun h=>by rw[h];rfl,?_⟩
  have hb:((Z9 p).2.1||(m (Zce (ZcN (Z9 p).1))).getD false)=decide ((Z9 p).2.1=true∨(Z9 p).1∈out):=by
   rw[hk]
   by_cases e:(Z9 p).1∈out
   ·rw[if_pos e];simp[e]
   ·rw[if_neg e];simp[e]
  rw[hb]
  by_cases e:(Z9 p).2.1=true∨(Z9 p).1∈out
  ·rw[decide_eq_true e]
   exact h1 (hs.trans (if_pos e))
  ·rw[decide_eq_false e]
   rw[if_neg e] at hs
   refine⟨hn,⟨by simp;omega,by simp;omega⟩,?_⟩
   by_cases e2:400 < out.length+1
   ·rw[decide_eq_true (show (400:Int) < ((out++[(Z9 p).1]).length:Int) by simp;omega)]
    exact hB (hs.trans (if_pos e2))
   ·rw[decide_eq_false (show ¬ (400:Int) < ((out++[(Z9 p).1]).length:Int) by simp;omega)]
    exact h2 (hs.trans (if_neg e2))
 ·rw[bne_iff_ne.2 he]
  exact hA (((ZgL p).resolve_left he).1) (if_pos he)
theorem ZjB{out out':List (List Zc)}{p:List Zc}(h:Z6 out p=some out')(hl:out.length≤400):out'.length≤400:=by
 unfold Z6 at h
 split at h
 ·cases h
 ·split at h
  ·cases h;exact hl
  ·split at h
   ·cases h
   ·cases h;simp;omega
theorem ZoI:∀ {l:List (List Zc)} {out out':List (List Zc)},l.foldlM Z6 out=some out'→out.length≤400→out'.length≤400
 | [],out,out',h,hl=>by cases h;exact hl
 | p::l,out,out',h,hl=>by
   simp only[List.foldlM_cons,Option.bind_eq_bind,Option.bind_eq_some_iff] at h
   obtain⟨s,h1,h2⟩:=h
   exact ZoI h2 (ZjB h1 hl)
theorem Lp.tid {body : Int × List (List Zc) × (ByteArray → Option Bool) → (Int × List (List Zc) × (ByteArray → Option Bool) → Prop) → Prop} (l a : List (List Zc)) (m0 : ByteArray → Option Bool) (ha : ZeG a m0) (hal : a.length ≤ 400) (hl : l.length ≤ 1048576 * 4)
 (h:∀ (i:Nat) out m R,i < l.length→(i:Int) < (l.length:Int)→Zm .i64 ((i:Int)+1)→ZeG out m→out.length≤400→(Z6 out (l.getD i [])=some out→R ((i:Int)+1,out,m)) →
  (Z6 out (l.getD i [])=some (out++[(Z9 (l.getD i [])).1])→R ((i:Int)+1,out++[(Z9 (l.getD i [])).1],ZdP m (Zce (ZcN (Z9 (l.getD i [])).1)) true)) →
  (Z6 out (l.getD i [])=none→l.foldlM Z6 a=none)→body ((i:Int),out,m) R)
 (h2:∀ out m R,l.foldlM Z6 a=some out→ZeG out m→out.length≤400→body ((l.length:Int),out,m) R):Lp body (0,a,m0):=by
 refine Lp.iter l.length (fun i y=>y.1=(i:Int)∧(l.take i).foldlM Z6 a=some y.2.1∧ZeG y.2.1 y.2.2) ⟨rfl,rfl,ha⟩ ?_
 rintro i ⟨y,out,m⟩ hle ⟨hy,ht,hm⟩ R hR
 simp only at hy ht hm
 subst hy
 have hlen:=ZoI ht hal
 by_cases e:i < l.length
 ·refine h i out m R e (by omega) ⟨by omega,by omega⟩ hm hlen (fun hs=>hR e _ ⟨rfl,?_,hm⟩) (fun hs=>hR e _ ⟨rfl,?_,hm.put _⟩) (fun hn=>Zcx ht e hn)
  ·rw[ZbW (d:=[]) ht e,hs]
  ·rw[ZbW (d:=[]) ht e,hs]
 ·have:i=l.length:=by omega
  subst this
  rw[List.take_length] at ht
  exact h2 out m R ht hm hlen
theorem Zr.b{s:ZbZ}(h:Zr s=true):0≤s.1∧s.1≤12∧s.2.length≤400∧∀ p∈s.2,p.length≤96∧(∀ c∈p,Zd c=true∧(c.2.2.1.length:Int)=s.1):=by
 simp only[Zr,Bool.and_eq_true,decide_eq_true_eq,List.all_eq_true,Zmc,beq_iff_eq] at h
 obtain⟨⟨⟨h1,h2⟩,h3⟩,h4⟩:=h
 refine⟨h1,h2,by omega,fun p hp=>?_⟩
 obtain⟨h5,h6⟩:=h4 p hp
 exact⟨by omega,h6⟩
theorem Zr.piece{s:ZbZ}(h:Zr s=true){p:List Zc}(hp:p∈s.2):p.length≤96∧∀ c∈p,Zd c=true:=by
 obtain⟨h1,h2⟩:=(Zr.b h).2.2.2 p hp
 exact⟨h1,fun c hc=>(h2 c hc).1⟩
theorem Zr.B{s:ZbZ}(h:Zr s=true){p:List Zc}(hp:p∈s.2):Zay p:=by
 obtain⟨h1,h2⟩:=Zr.piece h hp
 exact⟨by omega,fun c hc=>Zd.condB (h2 c hc)⟩
theorem ZH.spec(x:ZbZ):ZH.wp x (fun r=>r=ZH.fn (x,())):=by
 have hfn:ZH.fn (x,())=Zaa x:=rfl
 simp only[ZH.wp,Zao.fn,hfn]
 cases hv:Zr x with
 | false=>simp[Zaa,hv]
 | true =>
   have hn:Zaa x=ZfJ x.1 (x.2.foldlM Z6 []):=by simp[Zaa,hv,ZdX]
   simp only[Bool.not_true,cond_false,hn]
   refine Lp.tid x.2 [] _ ZeG.nil (by simp) (by have:=(Zr.b hv).2.2.1;omega) ?_ ?_
   ·intro i out m R e e2 hf hk hl h1 h2 h3
    simp only[decide_eq_true e2,Int.toNat_natCast,cond_true]
    refine⟨⟨by omega,by omega⟩,Zes (Zr.B hv (Zi e)) hk hl (fun h4 hn=>?_) (fun hs=>⟨hf,h1 hs⟩) (fun hn=>?_) (fun hs=>⟨hf,h2 hs⟩)⟩
    ·simp only[Zb.fn,h4,show ((3:Int) != 0)=true from rfl,cond_true]
     rw[h3 hn];rfl
    ·rw[h3 hn];rfl
   ·intro out m R ht hk hl
    simp only[Int.lt_irrefl,decide_false,cond_false]
    rw[ht];rfl
theorem Zm9{x y:ZbZ}(h:Zd7 x y=0):Zr x=true∧Zr y=true∧x.1=y.1:=by
 unfold Zd7 at h
 split at h
 ·rename_i hv
  split at h
  ·rename_i he
   simp only[Bool.and_eq_true] at hv
   exact⟨hv.1,hv.2,he⟩
  ·cases h
 ·cases h
theorem Zoc{c:Zc}(h1:(Zdo c).2.2=0)(h2:(Zdo c).2.1=0):Zd (Zdo c).1=true:=by
 unfold Zdo at *
 split at h1
 ·cases h1
 ·rename_i h
  rw[if_neg h] at h2 ⊢
  simp only at h2
  cases hv:Zd (ZbF c).1 with
  | true=>rfl
  | false=>exact absurd ⟨h2,hv⟩ h
theorem ZqF{n:Nat}(h:n≤12):Zd (0,0,List.replicate n 0,0)=true:=by
 have:Z4 (List.replicate n 0,0)=true:=ZiZ (by simpa using h) (fun m hm=>by rw[(List.mem_replicate.1 hm).2];decide) (by decide)
 simp[Zd,this]
theorem Zkw{n:Nat}(hn:n≤12):∀ {l out out':List Zc},l.foldlM (Zcy n) out=some out'→(∀ d∈out,Zd d=true)→∀ d∈out',Zd d=true
 | [],out,out',h,h1=>by cases h;exact h1
 | c::l,out,out',h,h1=>by
   simp only[List.foldlM_cons,Option.bind_eq_bind,Option.bind_eq_some_iff] at h
   obtain⟨s,h2,h3⟩:=h
   refine Zkw hn h3 ?_
   have key:∀ x,Zd x=true→∀ d∈out++[x],Zd d=true:=fun x hx d hd=>by
    rcases List.mem_append.1 hd with hd | hd
    ·exact h1 d hd
    ·simp only[List.mem_singleton] at hd;subst hd;exact hx
   unfold Zcy at h2
   split at h2
   ·cases h2
   ·rename_i he
    split at h2
    ·cases h2;exact key _ (ZqF hn)
    ·split at h2
     ·cases h2;exact h1
     ·cases h2
      exact key _ (Zoc (by omega) (by omega))
theorem Zlh{c:Zc}(hv:Zd c=true):((Zgo c).2=0∨(Zgo c).2=3)∧(Zgo c).1.length≤400∧∀ d∈(Zgo c).1,Zd d=true:=by
 unfold Zgo
 rw[if_neg (by rw[hv];simp)]
 rcases Z8 ((ZaW c).foldlM (Zcy c.2.2.1.length) []) with h | ⟨out,h⟩
 ·rw[h];simp
 ·rw[h]
  simp only
  split
  ·simp
  ·rename_i h2
   exact⟨.inl rfl,by simp only;omega,Zkw (Z4.b (Zd.lin hv)).1 h (by simp)⟩
theorem ZnX{a b:List Zc}(hb:Zcb b){out out':List (List Zc)}{i:Nat}(hi:i < b.length)(h:Zcp a b out i=some out'):out'.length≤out.length+400:=by
 have:=(Zlh (hb.2 _ (Zi (d:=Za) hi))).2.1
 unfold Zcp at h
 split at h
 ·cases h
 ·cases h
  simp only[List.length_append,List.length_map];omega
theorem Zic{a b:List Zc}(hb:Zcb b):∀ {l:List Nat} {out out':List (List Zc)},(∀ i∈l,i < b.length)→l.foldlM (Zcp a b) out=some out'→out'.length≤out.length+400*l.length
 | [],out,out',_,h=>by cases h;simp
 | i::l,out,out',hl,h=>by
   simp only[List.foldlM_cons,Option.bind_eq_bind,Option.bind_eq_some_iff] at h
   obtain⟨s,h1,h2⟩:=h
   have:=ZnX hb (hl i (by simp)) h1
   have:=Zic hb (fun j hj=>hl j (by simp[hj])) h2
   simp only[List.length_cons];omega
theorem ZuC{a b:List Zc}(ha:Zcb a)(hb:Zcb b):∀ {l:List Nat} {out out':List (List Zc)},(∀ i∈l,i < b.length)→l.foldlM (Zcp a b) out=some out'→(∀ p∈out,Zay p)→∀ p∈out',Zay p
 | [],out,out',_,h,h3=>by cases h;exact h3
 | i::l,out,out',hl,h,h3=>by
   simp only[List.foldlM_cons,Option.bind_eq_bind,Option.bind_eq_some_iff] at h
   obtain⟨s,h1,h2⟩:=h
   refine ZuC ha hb (fun j hj=>hl j (by simp[hj])) h2 ?_
   have hn:=(Zlh (hb.2 _ (Zi (d:=Za) (hl i (by simp))))).2.2
   unfold Zcp at h1
   split at h1
   ·cases h1
   ·cases h1
    intro p hp
    rcases List.mem_append.1 hp with hp | hp
    ·exact h3 p hp
    ·obtain⟨o,ho,rfl⟩:=List.mem_map.1 hp
     have h4:=ha.1
     have h5:=hb.1
     refine⟨by simp only[List.length_append,List.length_take,List.length_cons,List.length_nil];omega,fun c hc=>Zd.condB ?_⟩
     rcases List.mem_append.1 hc with hc | hc
     ·exact ha.2 c hc
     ·rcases List.mem_append.1 hc with hc | hc
      ·exact hb.2 c (List.mem_of_mem_take hc)
      ·simp only[List.mem_singleton] at hc;subst hc;exact hn _ ho
theorem Zry{a b:List Zc}(ha:Zcb a)(hb:Zcb b):(Zf6 a b).1.length≤1048576*4∧∀ p∈(Zf6 a b).1,Zay p:=by
 unfold Zf6
 split
 ·simp
 ·split
  ·exact⟨by simp,fun p hp=>by simp only[List.mem_singleton] at hp;subst hp;exact ha.B⟩
  ·rcases Z8 ((List.range b.length).foldlM (Zcp a b) []) with h | ⟨out,h⟩
   ·rw[h];simp
   ·rw[h]
    have h1:=Zic hb (fun i hi=>List.mem_range.1 hi) h
    have h2:=hb.1
    simp only[List.length_nil,List.length_range] at h1
    exact⟨by simp only;omega,ZuC ha hb (fun i hi=>List.mem_range.1 hi) h (by simp)⟩
theorem ZhA{n i:Nat}(h:i < n):(List.range n).getD i 0=i:=by
 rw[ZN (by simpa using h)];simp
theorem Zb5.spec(a b:List Zc)(hp:Zb5.pre (a,b,())):Zb5.wp a b (fun r=>r=Zb5.fn (a,b,())):=by
 obtain⟨ha,hb⟩:Zcb a∧Zcb b:=hp
 have hal:=ha.1
 have hbl:=hb.1
 have hfn:Zb5.fn (a,b,())=Zf6 a b:=rfl
 have hab:Zay (a++b):=⟨by simp only[List.length_append];omega,fun c hc=>(List.mem_append.1 hc).elim (fun h=>Zd.condB (ha.2 c h)) (fun h=>Zd.condB (hb.2 c h))⟩
 simp only[Zb5.wp,hfn,Zh.fn,Zb.fn,List.flatten_cons,List.flatten_nil,List.append_nil]
 refine⟨⟨by simp,by simp only[List.flatten_cons,List.flatten_nil,List.append_nil];exact hab.1⟩,hab,?_⟩
 by_cases h0:(Z9 (a++b)).2.2=0
 ·simp only[h0,bne_self_eq_false,cond_false]
  by_cases h1:(Z9 (a++b)).2.1=true
  ·simp only[h1,cond_true]
   simp[Zf6,h0,h1]
  ·rw[Bool.not_eq_true] at h1
   simp only[h1,cond_false]
   have hcf:Zf6 a b=match (List.range b.length).foldlM (Zcp a b) [] with
    | none=>([],3)
    | some out=>(out,0):=by
    unfold Zf6
    exact (if_neg (fun h=>h h0)).trans (if_neg (by rw[h1];simp))
   have hrl:(List.range b.length).length=b.length:=by simp
   refine Lp.foldO (List.range b.length) 0 (Zcp a b) [] (by omega) ?_ ?_
   ·intro i out R e e2 hf ht hR1 hR2
    rw[hrl] at e e2
    have hol:=Zic hb (fun j hj=>by have:=List.mem_of_mem_take hj;simpa using this) ht
    simp only[List.length_nil,List.length_take,hrl] at hol
    simp only[ZhA e,Zcp] at hR1 hR2
    simp only[decide_eq_true e2,Int.toNat_natCast,cond_true,ZaX.fn]
    have hng:=Zlh (hb.2 _ (Zi (d:=Za) e))
    refine⟨⟨by omega,by omega⟩,?_⟩
    by_cases hn:(Zgo (b.getD i Za)).2=0
    ·simp only[hn,bne_self_eq_false,cond_false]
     rw[if_neg (fun h=>h hn)] at hR1
     have h4:=hng.2.1
     refine Lp.iter (Zgo (b.getD i Za)).1.length (fun j y=>y=((j:Int),out++((Zgo (b.getD i Za)).1.take j).map fun o=>a++(b.take i++[o]))) (by simp) ?_
     rintro j y hjl rfl R' hR'
     by_cases e3:j < (Zgo (b.getD i Za)).1.length
     ·simp only[decide_eq_true (show (j:Int) < ((Zgo (b.getD i Za)).1.length:Int) by omega),Int.toNat_natCast,cond_true]
      refine⟨⟨by omega,by omega⟩,⟨by omega,by omega⟩,⟨by simp,?_⟩,⟨?_,?_⟩,⟨by omega,by omega⟩,hR' e3 _ ?_⟩
      ·simp only[List.flatten_cons,List.flatten_nil,List.append_nil,List.length_append,List.length_take,List.length_cons,List.length_nil];omega
      ·simp only[List.length_append,List.length_map,List.length_take,List.length_cons,List.length_nil];omega
      ·simp only[List.length_append,List.length_map,List.length_take,List.length_cons,List.length_nil];omega
      ·rw[Zy Za e3,List.map_append]
       exact congrArg (Prod.mk ((j:Int)+1)) (List.append_assoc _ _ _)
     ·have:j=(Zgo (b.getD i Za)).1.length:=by omega
      subst this
      simp only[Int.lt_irrefl,decide_false,cond_false,List.take_length]
      exact⟨hf,hR1 _ rfl⟩
    ·simp only[bne_iff_ne.2 hn,cond_true]
     rw[hcf,hR2 (if_pos hn),(hng.1.resolve_left hn)]
   ·intro out R ht
    rw[hrl]
    simp only[Int.lt_irrefl,decide_false,cond_false]
    rw[hcf,ht]
 ·simp only[bne_iff_ne.2 h0,cond_true]
  rw[((ZgL _).resolve_left h0).1]
  simp[Zf6,h0]
def PP(l:List (List Zc)):Prop:=l.length≤400∧∀ p∈l,p.length≤96∧∀ c∈p,Zd c=true
theorem PP.v{l:List (List Zc)}(h:PP l){p:List Zc}(hp:p∈l):Zcb p:=⟨by have:=(h.2 p hp).1;omega,(h.2 p hp).2⟩
theorem PP.nil:PP []:=⟨by simp,by simp⟩
theorem Zqj{out out':List (List Zc)}{p:List Zc}(h:Z6 out p=some out')(hl:PP out)(hp:Zay p):PP out':=by
 refine⟨ZjB h hl.1,?_⟩
 unfold Z6 at h
 split at h
 ·cases h
 ·split at h
  ·cases h;exact hl.2
  ·split at h
   ·cases h
   ·cases h
    intro q hq
    rcases List.mem_append.1 hq with hq | hq
    ·exact hl.2 q hq
    ·simp only[List.mem_singleton] at hq;subst hq
     exact⟨ZjC p,Zit hp⟩
theorem Zlc:∀ {l:List (List Zc)} {out out':List (List Zc)},l.foldlM Z6 out=some out'→PP out→(∀ p∈l,Zay p)→PP out'
 | [],out,out',h,hl,_=>by cases h;exact hl
 | p::l,out,out',h,hl,hb=>by
   simp only[List.foldlM_cons,Option.bind_eq_bind,Option.bind_eq_some_iff] at h
   obtain⟨s,h1,h2⟩:=h
   exact Zlc h2 (Zqj h1 hl (hb p (by simp))) fun q hq=>hb q (by simp[hq])
abbrev ZhF(b:List Zc)(out:List (List Zc))(a:List Zc):Option (List (List Zc)):=if (Zf6 a b).2≠0 then none else (Zf6 a b).1.foldlM Z6 out
theorem ZiO{b:List Zc}(hb:Zcb b):∀ {l out out':List (List Zc)},l.foldlM (ZhF b) out=some out'→PP out→(∀ p∈l,Zcb p)→PP out'
 | [],out,out',h,hl,_=>by cases h;exact hl
 | p::l,out,out',h,hl,hv=>by
   simp only[List.foldlM_cons,Option.bind_eq_bind,Option.bind_eq_some_iff] at h
   obtain⟨s,h1,h2⟩:=h
   refine ZiO hb h2 ?_ fun q hq=>hv q (by simp[hq])
   unfold ZhF at h1
   split at h1
   ·cases h1
   ·exact Zlc h1 hl (Zry (hv p (by simp)) hb).2
theorem Zqy{cur cur':List (List Zc)}{b:List Zc}(h:Zd1 cur b=some cur')(hb:Zcb b)(hc:PP cur):PP cur':=ZiO hb h PP.nil fun p hp=>hc.v hp
theorem ZnO:∀ {l:List (List Zc)} {cur cur':List (List Zc)},l.foldlM Zd1 cur=some cur'→PP cur→(∀ p∈l,Zcb p)→PP cur'
 | [],out,out',h,hl,_=>by cases h;exact hl
 | p::l,out,out',h,hl,hv=>by
   simp only[List.foldlM_cons,Option.bind_eq_bind,Option.bind_eq_some_iff] at h
   obtain⟨s,h1,h2⟩:=h
   exact ZnO h2 (Zqy h1 (hv p (by simp)) hl) fun q hq=>hv q (by simp[hq])
theorem Zg0{x:ZbZ}(h:(Zaa x).2=0):PP (Zaa x).1.2∧(Zaa x).1.1=x.1:=by
 unfold Zaa at h ⊢
 split at h
 ·cases h
 ·rename_i hv
  rw[if_neg hv]
  rw[Bool.not_eq_false] at hv
  unfold ZfJ at h ⊢
  rcases Z8 (ZdX x.2) with ho | ⟨out,ho⟩
  ·rw[ho] at h;cases h
  ·rw[ho]
   exact⟨Zlc ho PP.nil fun p hp=>Zr.B hv hp,rfl⟩
theorem ZbI.spec(x y:ZbZ):ZbI.wp x y (fun r=>r=ZbI.fn (x,y,())):=by
 have hfn:ZbI.fn (x,y,())=ZcE x y:=rfl
 simp only[ZbI.wp,ZbG.fn,hfn,ZH.fn,Zb5.fn]
 by_cases he:Zd7 x y=0
 ·have hM:ZcE x y=if (Zaa x).2≠0∨(Zaa y).2≠0 then ((0,[]),3) else ZfJ x.1 ((Zaa y).1.2.foldlM Zd1 (Zaa x).1.2):=by
   unfold ZcE;exact if_neg (fun h=>h he)
  simp only[he,bne_self_eq_false,cond_false]
  refine⟨fun h=>⟨h,trivial⟩,fun h=>by rw[h];rfl,?_⟩
  by_cases hx:(Zaa x).2=0
  ·by_cases hy:(Zaa y).2=0
   ·simp only[hx,hy,bne_self_eq_false,Bool.or_false,cond_false,ne_eq,not_true_eq_false,or_self,if_false] at hM ⊢
    obtain⟨pX,eX⟩:=Zg0 hx
    obtain⟨pY,eY⟩:=Zg0 hy
    simp only[eX]
    generalize (Zaa x).1.2=X at *
    generalize (Zaa y).1.2=Y at *
    have hYl:=pY.1
    refine Lp.iter Y.length (fun i z=>∃ cur,z=((i:Int),(0:Int),x.1,cur,(0:Int))∧(Y.take i).foldlM Zd1 X=some cur) ⟨X,rfl,rfl⟩ ?_
    rintro i z hle ⟨cur,rfl,ht⟩ R hR
    have pC:=ZnO ht pX fun p hp=>pY.v (List.mem_of_mem_take hp)
    by_cases e:i < Y.length
    ·simp only[decide_eq_true (show (i:Int) < (Y.length:Int) by omega),Int.toNat_natCast,cond_true]
     refine⟨⟨by omega,by omega⟩,?_⟩
     have hvb:=pY.v (Zi (d:=[]) e)
     have hsn:=ZbW (d:=[]) ht e
     have hnone:=Zcx (d:=[]) ht e
     have hT:(Y.foldlM Zd1 X=none)→ZcE x y=((0,[]),3):=fun h=>by rw[hM,h];rfl
     have hCl:=pC.1
     refine Lp.iter cur.length (fun j z=>z.1=(j:Int)∧(cur.take j).foldlM (ZhF (Y.getD i [])) []=some z.2.1∧ZeG z.2.1 z.2.2) ⟨rfl,rfl,ZeG.nil⟩ ?_
     rintro j ⟨z,o,mo⟩ hjle ⟨hz,ht2,hm⟩ R2 hR2
     simp only at hz ht2 hm
     subst hz
     have pO:=ZiO hvb ht2 PP.nil fun p hp=>pC.v (List.mem_of_mem_take hp)
     by_cases e2:j < cur.length
     ·simp only[decide_eq_true (show (j:Int) < (cur.length:Int) by omega),Int.toNat_natCast,cond_true]
      have hva:=pC.v (Zi (d:=[]) e2)
      have hsn2:=ZbW (d:=[]) ht2 e2
      have hnone2:ZhF (Y.getD i []) o (cur.getD j [])=none→ZcE x y=((0,[]),3):=fun h=>hT (hnone (Zcx (d:=[]) ht2 e2 h))
      refine⟨⟨by omega,by omega⟩,⟨hva,hvb⟩,?_⟩
      by_cases hc:(Zf6 (cur.getD j []) (Y.getD i [])).2=0
      ·have hct:ZhF (Y.getD i []) o (cur.getD j [])=(Zf6 (cur.getD j []) (Y.getD i [])).1.foldlM Z6 o:=if_neg fun h=>h hc
       rw[hct] at hsn2 hnone2
       simp only[hc,bne_self_eq_false,cond_false]
       obtain⟨hcl,hcB⟩:=Zry hva hvb
       refine Lp.tid (Zf6 (cur.getD j []) (Y.getD i [])).1 o mo hm pO.1 hcl ?_ ?_
       ·intro k out m R' e3 e4 hf hk hl h1 h2 h3
        simp only[decide_eq_true e4,Int.toNat_natCast,cond_true]
        refine⟨⟨by omega,by omega⟩,Zes (hcB _ (Zi e3)) hk hl (fun h4 hn=>?_) (fun hs=>⟨hf,h1 hs⟩) (fun hn=>?_) (fun hs=>⟨hf,h2 hs⟩)⟩
        ·simp only[Zb.fn,h4,show ((3:Int) != 0)=true from rfl,Bool.true_or,cond_true]
         exact⟨fun h=>by simp at h,fun h=>by simp at h,(hnone2 (h3 hn)).symm⟩
        ·exact⟨fun h=>by simp at h,fun h=>by simp at h,(hnone2 (h3 hn)).symm⟩
       ·intro out m R' ht3 hk hl
        simp only[Int.lt_irrefl,decide_false,cond_false]
        exact⟨⟨by omega,by omega⟩,hR2 e2 _ ⟨rfl,hsn2.trans ht3,hk⟩⟩
      ·simp only[bne_iff_ne.2 hc,cond_true,bne_self_eq_false,Bool.or_true]
       exact⟨fun h=>⟨rfl,trivial⟩,fun _=>rfl,(hnone2 (if_pos hc)).symm⟩
     ·have:j=cur.length:=by omega
      subst this
      simp only[Int.lt_irrefl,decide_false,cond_false,bne_self_eq_false,Bool.or_self]
      rw[List.take_length] at ht2
      exact⟨fun h=>⟨rfl,trivial⟩,fun _=>rfl,⟨by omega,by omega⟩,hR e _ ⟨o,rfl,hsn.trans ht2⟩⟩
    ·have:i=Y.length:=by omega
     subst this
     simp only[Int.lt_irrefl,decide_false,cond_false]
     rw[List.take_length] at ht
     rw[hM,ht];rfl
   ·simp only[bne_iff_ne.2 hy,Bool.or_true,cond_true]
    rw[hM,if_pos (.inr hy)]
  ·simp only[bne_iff_ne.2 hx,Bool.true_or,cond_true]
   rw[hM,if_pos (.inl hx)]
 ·rw[bne_iff_ne.2 he]
  simp[ZcE,he]
theorem ZdA{n m x y:Int}(hn:0≤n)(hm:0≤m)(h1:-n≤x)(h2:x≤n)(h3:-m≤y)(h4:y≤m):-(n*m)≤x*y∧x*y≤n*m:=by
 have h:(x*y).natAbs≤n.natAbs*m.natAbs:=by rw[Int.natAbs_mul];exact Nat.mul_le_mul (by omega) (by omega)
 have e:n*m=((n.natAbs*m.natAbs:Nat):Int):=by rw[Int.natCast_mul,Int.natAbs_of_nonneg hn,Int.natAbs_of_nonneg hm]
 rw[e];omega
def Zda(p:List Zc)(n:Nat):Prop:=∀ c∈p,c.2.2.1.length=n
def Zxq(l:Lin)(n k:Int):Lin:=(l.1.map (·.tdiv n),k)
abbrev Zad.fn(x:Lin×Int×Int×Unit):Lin:=Zxq x.1 x.2.1 x.2.2.1
abbrev Zad.pre(x:Lin×Int×Int×Unit):Prop:=x.2.1≠0∧x.1.1.length≤1048576∧Zdd x.1.1
abbrev Zt.fn(x:Zc×Unit):Zc×Int:=ZbF x.1
abbrev Zt.pre(x:Zc×Unit):Prop:=condB x.1
def ZbB(a b:Zc):Int:=if a.2.2.1=b.2.2.1 then 1 else if a.2.2.1=Zcm b.2.2.1 then -1 else 0
abbrev ZV.fn(x:Zc×Zc×Unit):Int:=ZbB x.1 x.2.1
abbrev ZV.pre(x:Zc×Zc×Unit):Prop:=x.1.2.2.1.length=x.2.1.2.2.1.length∧x.1.2.2.1.length≤1048576∧Zdd x.2.1.2.2.1
abbrev Zaj.fn(x:List Int×List Int×Unit):Int:=Zdl x.1 x.2.1
abbrev Zaj.pre(x:List Int×List Int×Unit):Prop:=x.1.length=x.2.1.length
abbrev Zbe.fn(x:Int×Unit):Int:=Zcz x.1
abbrev Zbl.fn(x:Lin×Lin×Unit):Int:=Zdl (x.1.1++[x.1.2]) (x.2.1.1++[x.2.1.2])
abbrev Zbl.pre(x:Lin×Lin×Unit):Prop:=x.1.1.length=x.2.1.1.length∧x.1.1.length≤1048576
abbrev Zbd.fn(x:Zc×Zc×Unit):Int:=Zh3 x.1 x.2.1
abbrev Zbd.pre(x:Zc×Zc×Unit):Prop:=x.1.2.2.1.length=x.2.1.2.2.1.length∧x.1.2.2.1.length≤1048576
abbrev Zag.fn(x:List Zc×Unit):List Zc:=Za8 x.1
abbrev Zag.pre(x:List Zc×Unit):Prop:=x.1.length≤2199023255552∧∃ n,n≤1048576∧Zda x.1 n
def Zng(p:List Zc):Prop:=Zay p∧∃ n,Zda p n
abbrev Zab.fn(x:List Zc×Unit):List Zc×Bool×Int:=Z9 x.1
abbrev Zab.pre(x:List Zc×Unit):Prop:=Zng x.1
abbrev ZaY.fn(x:List (List Zc)×List Zc×Unit):Bool:=decide (x.2.1∈x.1)
def Zco(out:List (List Zc))(p:List Zc):Option (List (List Zc)) :=
 if (Z9 p).2.2≠0 then none else if (Z9 p).2.1=true∨(Z9 p).1∈out then some out else some (out++[(Z9 p).1])
def Zgj(l:List (List Zc)):List (List Zc)×Int:=match l.foldlM Zco [] with
 | none=>([],3)
 | some out=>(out,0)
abbrev ZU.fn(x:List (List Zc)×Unit):List (List Zc)×Int:=Zgj x.1
abbrev ZU.pre(x:List (List Zc)×Unit):Prop:=x.1.length≤1099511627776∧∀ p∈x.1,Zng p
abbrev Zax.fn(x:Int×List (List Zc)×Unit):ZbZ×Int:=ZfJ x.1 (ZdX x.2.1)
abbrev Zax.pre(x:Int×List (List Zc)×Unit):Prop:=x.2.1.length≤1099511627776∧∀ p∈x.2.1,Zng p
abbrev Zam.fn(x:ZbZ×Unit):ZbZ×Int:=Zaa x.1
abbrev ZaR.fn(x:List Zc×List Zc×Unit):List Zc:=x.1++x.2.1
abbrev ZaR.pre(x:List Zc×List Zc×Unit):Prop:=x.1.length≤1048576∧x.2.1.length≤1048576
def ZcF(a:Int)(l:Lin)(b:Int)(m:Lin):Lin:=((List.range l.1.length).map fun i=>a*l.1.getD i 0+b*m.1.getD i 0,a*l.2+b*m.2)
def Zdf(l:Lin):Prop:=l.1.length≤1048576∧(∀ n∈l.1,-4294967296≤n∧n≤4294967296)∧-4294967296≤l.2∧l.2≤4294967296
abbrev Zw.fn(x:Int×Lin×Int×Lin×Unit):Lin:=ZcF x.1 x.2.1 x.2.2.1 x.2.2.2.1
abbrev Zw.pre(x:Int×Lin×Int×Lin×Unit):Prop:=(-1048576≤x.1∧x.1≤1048576)∧Zdf x.2.1∧(-1048576≤x.2.2.1∧x.2.2.1≤1048576)∧Zdf x.2.2.2.1∧x.2.1.1.length=x.2.2.2.1.1.length
abbrev ZaL.fn(x:Zc×Unit):List Zc×Int:=Zgo x.1
abbrev Zba.fn(x:ZbZ×ZbZ×Unit):ZbZ×Int:=ZcE x.1 x.2.1
def isF(c:Zc)(p:List Int):Bool:=ZgK c (c.2.2.2+ZfS c.2.2.1 p)
def ZkX(m:Int)(l:List ZbZ):Bool:=l.all fun s=>s.2.all fun p=>decide ((p.length:Int)≤m)
def ZkT(l:List ZbZ):Int:=l.foldl (fun n s=>IntKind.wrap .i64 (n+(s.2.length:Int))) 0
abbrev Z2.fn(x:Int×Int×List ZbZ×Unit):Bool:=ZkX x.2.1 x.2.2.1&&decide (ZkT x.2.2.1≤x.1)
set_option maxRecDepth 4000
def ZaU.wp(x0:Bool)(Q:Zc×Int→Prop):Prop:=cond x0 (Q (Za,(1:Int))) (Q (Za,(-(1:Int))))
def Zad.wp(x0:Lin)(x1:Int)(x2:Int)(Q:Lin→Prop):Prop:=(((0:Int)≤((List.length x0.1:Nat):Int)∧(((List.length x0.1:Nat):Int)≤((List.length x0.1:Nat):Int)∧((((List.length x0.1:Nat):Int)*((8:Nat):Int))≤(140737488355328:Int)∧((List.length x0.1:Nat):Int)≤(9223372036854775807:Int))))∧Lp (σ:=Int×List Int) (fun y4 R4=>let v2:=List.getD x0.1 (Int.toNat y4.1) (0:Int);cond (decide (y4.1 < ((List.length x0.1:Nat):Int))) (((0:Int)≤y4.1∧y4.1 < ((List.length x0.1:Nat):Int))∧((x1≠(0:Int)∧Zm IntKind.i64 (Int.tdiv v2 x1))∧(((0:Int)≤y4.1∧y4.1 < ((List.length y4.2:Nat):Int))∧(Int.toNat y4.1 < List.length y4.2∧(Zm IntKind.i64 (y4.1+(1:Int))∧R4 ((y4.1+(1:Int)),(List.set y4.2 (Int.toNat y4.1) (Int.tdiv v2 x1)))))))) (Q (y4.2,x2))) ((0:Int),(List.replicate (Int.toNat ((List.length x0.1:Nat):Int)) (0:Int))))
def Zt.wp(x0:Zc)(Q:Zc×Int→Prop):Prop:=let v0:=Zbf.fn (x0.2.2.1,());let v2:=ZaA.fn (x0.2.2.2,(v0.1,()));let v5:=ZaU.fn (false,());let v7:=Int.tdiv x0.2.2.2 (-v0.1);let v9:=Zad.fn (x0.2.2,(v0.1,(Int.tdiv x0.2.2.2 v0.1,())));let v15:=List.length ([]:List Int);let v18:=ZaQ.fn (x0.2.2.2,(x0.2.1,()));(Zbf.pre (x0.2.2.1,())∧cond (x0.1 == (0:Int)) (cond (v0.1 == (0:Int)) (Q (ZaU.fn (decide ((0:Int)≤x0.2.2.2),()))) (ZaA.pre (x0.2.2.2,(v0.1,()))∧(Zad.pre (x0.2.2,(v0.1,(v2.1,())))∧Q (((0:Int),((0:Int),(Zad.fn (x0.2.2,(v0.1,(v2.1,())))))),(0:Int))))) (cond (x0.1 == (1:Int)) (cond (v0.1 == (0:Int)) (Q (ZaU.fn ((x0.2.2.2 == (0:Int)),()))) (v0.1≠(0:Int)∧cond (Int.tmod x0.2.2.2 v0.1 != (0:Int)) (Q v5) (Lp (σ:=Int) (fun y2 R2=>let v6:=List.getD x0.2.2.1 (Int.toNat y2) (0:Int);cond (decide (y2 < ((List.length x0.2.2.1:Nat):Int))) (((0:Int)≤y2∧y2 < ((List.length x0.2.2.1:Nat):Int))∧cond (v6 != (0:Int)) (cond (decide (v6 < (0:Int))) (Zm IntKind.i64 (-v0.1)∧(((-v0.1)≠(0:Int)∧Zm IntKind.i64 v7)∧(Zad.pre (x0.2.2,((-v0.1),(v7,())))∧Q (((1:Int),((0:Int),(Zad.fn (x0.2.2,((-v0.1),(v7,())))))),(0:Int))))) ((v0.1≠(0:Int)∧Zm IntKind.i64 (Int.tdiv x0.2.2.2 v0.1))∧(Zad.pre (x0.2.2,(v0.1,(Int.tdiv x0.2.2.2 v0.1,())))∧Q (((1:Int),((0:Int),v9)),(0:Int))))) (Zm IntKind.i64 (y2+(1:Int))∧R2 (y2+(1:Int)))) ((v0.1≠(0:Int)∧Zm IntKind.i64 (Int.tdiv x0.2.2.2 v0.1))∧(Zad.pre (x0.2.2,(v0.1,(Int.tdiv x0.2.2.2 v0.1,())))∧Q (((1:Int),((0:Int),v9)),(0:Int))))) (0:Int)))) (((0:Int)≤((List.length x0.2.2.1:Nat):Int)∧(((List.length x0.2.2.1:Nat):Int)≤((List.length x0.2.2.1:Nat):Int)∧((((List.length x0.2.2.1:Nat):Int)*((8:Nat):Int))≤(140737488355328:Int)∧((List.length x0.2.2.1:Nat):Int)≤(9223372036854775807:Int))))∧Lp (σ:=Int×List Int) (fun y2 R2=>let v12:=List.getD x0.2.2.1 (Int.toNat y2.1) (0:Int);let v16:=List.length (([]:List Int)++y2.2);let v17:=Zbf.fn (((([]:List Int)++y2.2)++[x0.2.1]),());cond (decide (y2.1 < ((List.length x0.2.2.1:Nat):Int))) (((0:Int)≤y2.1∧y2.1 < ((List.length x0.2.2.1:Nat):Int))∧(ZaQ.pre (v12,(x0.2.1,()))∧(((0:Int)≤y2.1∧y2.1 < ((List.length y2.2:Nat):Int))∧(Int.toNat y2.1 < List.length y2.2∧(Zm IntKind.i64 (y2.1+(1:Int))∧R2 ((y2.1+(1:Int)),(List.set y2.2 (Int.toNat y2.1) (ZaQ.fn (v12,(x0.2.1,()))).1))))))) (ZaQ.pre (x0.2.2.2,(x0.2.1,()))∧((((v15+List.length y2.2)*8)≤140737488355328∧(v15+List.length y2.2)≤9223372036854775807)∧((((v16+List.length [x0.2.1])*8)≤140737488355328∧(v16+List.length [x0.2.1])≤9223372036854775807)∧(Zbf.pre (((([]:List Int)++y2.2)++[x0.2.1]),())∧(v17.1≠(0:Int)∧cond (Int.tmod v18.1 v17.1 != (0:Int)) (Q v5) (cond (x0.2.1 == v17.1) (Q (ZaU.fn (true,()))) ((v17.1≠(0:Int)∧Zm IntKind.i64 (Int.tdiv x0.2.1 v17.1))∧((v17.1≠(0:Int)∧Zm IntKind.i64 (Int.tdiv v18.1 v17.1))∧(Zad.pre ((y2.2,v18.1),(v17.1,(Int.tdiv v18.1 v17.1,())))∧Q (((2:Int),(Int.tdiv x0.2.1 v17.1,(Zad.fn ((y2.2,v18.1),(v17.1,(Int.tdiv v18.1 v17.1,())))))),(0:Int)))))))))))) ((0:Int),(List.replicate (Int.toNat ((List.length x0.2.2.1:Nat):Int)) (0:Int))))))
def ZV.wp(x0:Zc)(x1:Zc)(Q:Int→Prop):Prop:=Lp (σ:=Int×Bool×Bool) (fun y3 R3=>let v0:=List.getD x1.2.2.1 (Int.toNat y3.1) (0:Int);let v1:=List.getD x0.2.2.1 (Int.toNat y3.1) (0:Int);cond (decide (y3.1 < ((List.length x0.2.2.1:Nat):Int))) ((y3.2.2=true→(y3.2.2=true∧True))∧((y3.2.2=true→(y3.2.2=true∧True))∧((y3.2.2=true→(y3.2.2=true∧(y3.2.2=true∧((0:Int)≤y3.1∧y3.1 < ((List.length x0.2.2.1:Nat):Int)))))∧((y3.2.2=true→(y3.2.2=true∧True))∧((y3.2.2=true→(y3.2.2=true∧True))∧((y3.2.2=true→(y3.2.2=true∧True))∧((y3.2.2=true→(y3.2.2=true∧(y3.2.2=true∧((0:Int)≤y3.1∧y3.1 < ((List.length x1.2.2.1:Nat):Int)))))∧((y3.2.2=true→(y3.2.2=true∧True))∧((y3.2.2=true→(y3.2.2=true∧(y3.2.2=true∧True)))∧((y3.2.2=true→y3.2.2=true)∧((y3.2.1=true→(y3.2.1=true∧True))∧((y3.2.1=true→(y3.2.1=true∧True))∧((y3.2.1=true→(y3.2.1=true∧(y3.2.1=true∧((0:Int)≤y3.1∧y3.1 < ((List.length x0.2.2.1:Nat):Int)))))∧((y3.2.1=true→(y3.2.1=true∧True))∧((y3.2.1=true→(y3.2.1=true∧True))∧((y3.2.1=true→(y3.2.1=true∧True))∧((y3.2.1=true→(y3.2.1=true∧(y3.2.1=true∧((0:Int)≤y3.1∧y3.1 < ((List.length x1.2.2.1:Nat):Int)))))∧((y3.2.1=true→(y3.2.1=true∧True))∧((y3.2.1=true→(y3.2.1=true∧Zm IntKind.i64 (-v0)))∧((y3.2.1=true→(y3.2.1=true∧(y3.2.1=true∧True)))∧((y3.2.1=true→y3.2.1=true)∧(Zm IntKind.i64 (y3.1+(1:Int))∧R3 ((y3.1+(1:Int)),((y3.2.1&&(v1 == (-v0))),(y3.2.2&&(v1 == v0)))))))))))))))))))))))))) (cond y3.2.2 (Q (1:Int)) (cond y3.2.1 (Q (-(1:Int))) (Q (0:Int))))) ((0:Int),(true,true))
def Zaj.wp(x0:List Int)(x1:List Int)(Q:Int→Prop):Prop:=Lp (σ:=Int) (fun y3 R3=>let v0:=List.getD x0 (Int.toNat y3) (0:Int);let v1:=List.getD x1 (Int.toNat y3) (0:Int);cond (decide (y3 < ((List.length x0:Nat):Int))) (((0:Int)≤y3∧y3 < ((List.length x0:Nat):Int))∧(((0:Int)≤y3∧y3 < ((List.length x1:Nat):Int))∧cond (decide (v0 < v1)) (Q (-(1:Int))) (((0:Int)≤y3∧y3 < ((List.length x0:Nat):Int))∧(((0:Int)≤y3∧y3 < ((List.length x1:Nat):Int))∧cond (decide (v1 < v0)) (Q (1:Int)) (Zm IntKind.i64 (y3+(1:Int))∧R3 (y3+(1:Int))))))) (Q (0:Int))) (0:Int)
def Zbe.wp(x0:Int)(Q:Int→Prop):Prop:=cond (x0 == (1:Int)) (Q (0:Int)) (cond (x0 == (0:Int)) (Q (1:Int)) (Q (2:Int)))
def Zbl.wp(x0:Lin)(x1:Lin)(Q:Int→Prop):Prop:=let v0:=List.length ([]:List Int);let v1:=List.length (([]:List Int)++x0.1);let v2:=List.length (([]:List Int)++x1.1);((((v0+List.length x0.1)*8)≤140737488355328∧(v0+List.length x0.1)≤9223372036854775807)∧((((v1+List.length [x0.2])*8)≤140737488355328∧(v1+List.length [x0.2])≤9223372036854775807)∧((((v0+List.length x1.1)*8)≤140737488355328∧(v0+List.length x1.1)≤9223372036854775807)∧((((v2+List.length [x1.2])*8)≤140737488355328∧(v2+List.length [x1.2])≤9223372036854775807)∧(Zaj.pre (((([]:List Int)++x0.1)++[x0.2]),(((([]:List Int)++x1.1)++[x1.2]),()))∧Q (Zaj.fn (((([]:List Int)++x0.1)++[x0.2]),(((([]:List Int)++x1.1)++[x1.2]),()))))))))
def Zbd.wp(x0:Zc)(x1:Zc)(Q:Int→Prop):Prop:=let v0:=Zbe.fn (x0.1,());let v1:=Zbe.fn (x1.1,());let v2:=Zaj.fn ([v0,x0.2.1],([v1,x1.2.1],()));(Zaj.pre ([v0,x0.2.1],([v1,x1.2.1],()))∧cond (v2 != (0:Int)) (Q v2) (Zbl.pre (x0.2.2,(x1.2.2,()))∧Q (Zbl.fn (x0.2.2,(x1.2.2,())))))
def Zag.wp(x0:List Zc)(Q:(List Zc)→Prop):Prop:=let v4:=List.length ([]:List (Zc));Lp (σ:=Int×List (Zc)) (fun y2 R2=>let v1:=List.getD x0 (Int.toNat y2.1) Za;cond (decide (y2.1 < ((List.length x0:Nat):Int))) (((0:Int)≤y2.1∧y2.1 < ((List.length x0:Nat):Int))∧Lp (σ:=Int) (fun y4 R4=>let v0:=List.getD y2.2 (Int.toNat y4) Za;let v5:=List.take (Int.toNat y4) y2.2;let v6:=List.length (([]:List (Zc))++v5);let v7:=List.length ((([]:List (Zc))++v5)++[v1]);let v8:=List.drop (Int.toNat y4) y2.2;((decide (y4 < ((List.length y2.2:Nat):Int))=true→(decide (y4 < ((List.length y2.2:Nat):Int))=true∧(decide (y4 < ((List.length y2.2:Nat):Int))=true∧((0:Int)≤y4∧y4 < ((List.length y2.2:Nat):Int)))))∧((decide (y4 < ((List.length y2.2:Nat):Int))=true→(decide (y4 < ((List.length y2.2:Nat):Int))=true∧True))∧((decide (y4 < ((List.length y2.2:Nat):Int))=true→(decide (y4 < ((List.length y2.2:Nat):Int))=true∧(decide (y4 < ((List.length y2.2:Nat):Int))=true∧Zbd.pre (v0,(v1,())))))∧((decide (y4 < ((List.length y2.2:Nat):Int))=true→(decide (y4 < ((List.length y2.2:Nat):Int))=true∧True))∧((decide (y4 < ((List.length y2.2:Nat):Int))=true→decide (y4 < ((List.length y2.2:Nat):Int))=true)∧cond (decide (y4 < ((List.length y2.2:Nat):Int))&&decide ((Zbd.fn (v0,(v1,()))) < (0:Int))) (Zm IntKind.i64 (y4+(1:Int))∧R4 (y4+(1:Int))) ((decide (y4 < ((List.length y2.2:Nat):Int))=true→(decide (y4 < ((List.length y2.2:Nat):Int))=true∧(decide (y4 < ((List.length y2.2:Nat):Int))=true∧((0:Int)≤y4∧y4 < ((List.length y2.2:Nat):Int)))))∧((decide (y4 < ((List.length y2.2:Nat):Int))=true→(decide (y4 < ((List.length y2.2:Nat):Int))=true∧True))∧((decide (y4 < ((List.length y2.2:Nat):Int))=true→(decide (y4 < ((List.length y2.2:Nat):Int))=true∧(decide (y4 < ((List.length y2.2:Nat):Int))=true∧True)))∧((decide (y4 < ((List.length y2.2:Nat):Int))=true→decide (y4 < ((List.length y2.2:Nat):Int))=true)∧cond (decide (y4 < ((List.length y2.2:Nat):Int))&&(Za3.fn (v0,(v1,())))) (Zm IntKind.i64 (y2.1+(1:Int))∧R2 ((y2.1+(1:Int)),y2.2)) (((0:Int)≤y4∧y4≤((List.length y2.2:Nat):Int))∧((((v4+List.length v5)*48)≤140737488355328∧(v4+List.length v5)≤9223372036854775807)∧((((v6+List.length [v1])*48)≤140737488355328∧(v6+List.length [v1])≤9223372036854775807)∧(((0:Int)≤y4∧y4≤((List.length y2.2:Nat):Int))∧((((v7+List.length v8)*48)≤140737488355328∧(v7+List.length v8)≤9223372036854775807)∧(Zm IntKind.i64 (y2.1+(1:Int))∧R2 ((y2.1+(1:Int)),(((([]:List (Zc))++v5)++[v1])++v8)))))))))))))))))) (0:Int)) (Q y2.2)) ((0:Int),([]:List (Zc)))
def Zab.wp(x0:List Zc)(Q:(List Zc)×Bool×Int→Prop):Prop:=Lp (σ:=Int×Bool×(List (Zc))×(List (Zc))×List (Zc)) (fun y2 R2=>let v0:=List.getD x0 (Int.toNat y2.1) Za;let v1:=[(((Zt.fn (v0,())).1).1,((((Zt.fn (v0,())).1).2).1,((((Zt.fn (v0,())).1).2).2)))];let v2:=Zaq.fn ((((Zt.fn (v0,())).1).1,((((Zt.fn (v0,())).1).2).1,((((Zt.fn (v0,())).1).2).2))),());cond (decide (y2.1 < ((List.length x0:Nat):Int))) (((0:Int)≤y2.1∧y2.1 < ((List.length x0:Nat):Int))∧(Zt.pre (v0,())∧cond ((Zt.fn (v0,())).2 == (-(1:Int))) (Q (([]:List (Zc)),(true,(0:Int)))) (cond ((Zt.fn (v0,())).2 == (1:Int)) (Zm IntKind.i64 (y2.1+(1:Int))∧R2 ((y2.1+(1:Int)),y2.2)) (((!y2.2.1)=true→((!y2.2.1)=true∧True))∧(((!y2.2.1)=true→((!y2.2.1)=true∧True))∧((y2.2.1=false→(!y2.2.1)=true)∧cond (((Zt.fn (v0,())).1).1 == (0:Int)) ((((List.length y2.2.2.1+List.length v1)*48)≤140737488355328∧(List.length y2.2.2.1+List.length v1)≤9223372036854775807)∧(Zm IntKind.i64 (y2.1+(1:Int))∧R2 ((y2.1+(1:Int)),((y2.2.1||(!v2)),((y2.2.2.1++v1),y2.2.2.2))))) (cond (((Zt.fn (v0,())).1).1 == (1:Int)) ((((List.length y2.2.2.2.1+List.length v1)*48)≤140737488355328∧(List.length y2.2.2.2.1+List.length v1)≤9223372036854775807)∧(Zm IntKind.i64 (y2.1+(1:Int))∧R2 ((y2.1+(1:Int)),((y2.2.1||(!v2)),(y2.2.2.1,((y2.2.2.2.1++v1),y2.2.2.2.2)))))) ((((List.length y2.2.2.2.2+List.length v1)*48)≤140737488355328∧(List.length y2.2.2.2.2+List.length v1)≤9223372036854775807)∧(Zm IntKind.i64 (y2.1+(1:Int))∧R2 ((y2.1+(1:Int)),((y2.2.1||(!v2)),(y2.2.2.1,(y2.2.2.2.1,(y2.2.2.2.2++v1)))))))))))))) (Lp (σ:=Int×List (Zc)) (fun y4 R4=>let v4:=List.getD y2.2.2.1 (Int.toNat y4.1) Za;cond (decide (y4.1 < ((List.length y2.2.2.1:Nat):Int))) (((0:Int)≤y4.1∧y4.1 < ((List.length y2.2.2.1:Nat):Int))∧(Int.toNat y4.1 < List.length y2.2.2.1∧Lp (σ:=Int×Bool×List (Zc)) (fun y6 R6=>let v3:=List.getD y6.2.2 (Int.toNat y6.1) Za;cond (decide (y6.1 < ((List.length y4.2:Nat):Int))) (((0:Int)≤y6.1∧y6.1 < ((List.length y6.2.2:Nat):Int))∧(Int.toNat y6.1 < List.length y6.2.2∧(ZV.pre (v3,(v4,()))∧cond ((ZV.fn (v3,(v4,()))) == (1:Int)) (((0:Int)≤y6.1∧y6.1 < ((List.length y6.2.2:Nat):Int))∧(Int.toNat y6.1 < List.length y6.2.2∧(((0:Int)≤y6.1∧y6.1 < ((List.length y6.2.2:Nat):Int))∧(Int.toNat y6.1 < List.length y6.2.2∧(Zm IntKind.i64 (y6.1+(1:Int))∧R6 ((y6.1+(1:Int)),(true,(List.set y6.2.2 (Int.toNat y6.1) (v3.1,(v3.2.1,(v3.2.2.1,(Min.min v3.2.2.2 v4.2.2.2)))))))))))) (Zm IntKind.i64 (y6.1+(1:Int))∧R6 ((y6.1+(1:Int)),y6.2))))) (cond (!y6.2.1) ((((List.length y6.2.2+List.length [v4])*48)≤140737488355328∧(List.length y6.2.2+List.length [v4])≤9223372036854775807)∧(Zm IntKind.i64 (y4.1+(1:Int))∧R4 ((y4.1+(1:Int)),(y6.2.2++[v4])))) (Zm IntKind.i64 (y4.1+(1:Int))∧R4 ((y4.1+(1:Int)),y6.2.2)))) ((0:Int),(false,y4.2)))) (((0:Int)≤((List.length y4.2:Nat):Int)∧(((List.length y4.2:Nat):Int)≤((List.length y4.2:Nat):Int)∧((((List.length y4.2:Nat):Int)*((1:Nat):Int))≤(140737488355328:Int)∧((List.length y4.2:Nat):Int)≤(9223372036854775807:Int))))∧Lp (σ:=Int×(List (Zc))×List Bool) (fun y6 R6=>let v10:=List.getD y4.2 (Int.toNat y6.1) Za;let v14:=Zt.fn (((1:Int),((0:Int),v10.2.2)),());cond (decide (y6.1 < ((List.length y4.2:Nat):Int))) (((0:Int)≤y6.1∧y6.1 < ((List.length y4.2:Nat):Int))∧(Int.toNat y6.1 < List.length y4.2∧(Zm IntKind.i64 (y6.1+(1:Int))∧Lp (σ:=Int×(List (Zc))×List Bool) (fun y8 R8=>let v11:=List.getD y4.2 (Int.toNat y8.1) Za;let v13:=List.set y8.2.2 (Int.toNat y6.1) true;cond (decide (y8.1 < ((List.length y4.2:Nat):Int))) (((0:Int)≤y8.1∧y8.1 < ((List.length y4.2:Nat):Int))∧(Int.toNat y8.1 < List.length y4.2∧(ZV.pre (v10,(v11,()))∧cond ((ZV.fn (v10,(v11,()))) != (-(1:Int))) (Zm IntKind.i64 (y8.1+(1:Int))∧R8 ((y8.1+(1:Int)),y8.2)) (Zm IntKind.i64 (v10.2.2.2+v11.2.2.2)∧cond (decide ((v10.2.2.2+v11.2.2.2) < (0:Int))) (Q (([]:List (Zc)),(true,(0:Int)))) (Zm IntKind.i64 (v10.2.2.2+v11.2.2.2)∧cond ((v10.2.2.2+v11.2.2.2) == (0:Int)) (((0:Int)≤y6.1∧y6.1 < ((List.length y8.2.2:Nat):Int))∧(Int.toNat y6.1 < List.length y8.2.2∧(((0:Int)≤y8.1∧y8.1 < ((List.length v13:Nat):Int))∧(Int.toNat y8.1 < List.length v13∧(Zt.pre (((1:Int),((0:Int),v10.2.2)),())∧((((List.length y8.2.1+List.length [v14.1])*48)≤140737488355328∧(List.length y8.2.1+List.length [v14.1])≤9223372036854775807)∧(Zm IntKind.i64 (y8.1+(1:Int))∧R8 ((y8.1+(1:Int)),((y8.2.1++[v14.1]),(List.set v13 (Int.toNat y8.1) true)))))))))) (Zm IntKind.i64 (y8.1+(1:Int))∧R8 ((y8.1+(1:Int)),y8.2))))))) (Zm IntKind.i64 (y6.1+(1:Int))∧R6 ((y6.1+(1:Int)),y8.2))) ((y6.1+(1:Int)),y6.2)))) (Lp (σ:=Int×List Bool) (fun y8 R8=>let v16:=List.getD y6.2.1 (Int.toNat y8.1) Za;cond (decide (y8.1 < ((List.length y6.2.1:Nat):Int))) (((0:Int)≤y8.1∧y8.1 < ((List.length y6.2.1:Nat):Int))∧(Int.toNat y8.1 < List.length y6.2.1∧(((0:Int)≤y8.1∧y8.1≤((List.length y6.2.1:Nat):Int))∧Lp (σ:=Int) (fun y10 R10=>let v17:=List.getD y6.2.1 (0+Int.toNat y10) Za;let v18:=ZV.fn (v16,(v17,()));cond (decide (y10 < ((Int.toNat y8.1:Nat):Int))) (((0:Int)≤y10∧(y10 < ((Int.toNat y8.1:Nat):Int)∧(0+Int.toNat y8.1)≤List.length y6.2.1))∧((0+Int.toNat y10) < List.length y6.2.1∧(ZV.pre (v16,(v17,()))∧(((v18 == (1:Int))=true→((v18 == (1:Int))=true∧True))∧(((v18 == (1:Int))=true→((v18 == (1:Int))=true∧True))∧(((v18 == (1:Int))=true→((v18 == (1:Int))=true∧True))∧(((v18 == (1:Int))=true→((v18 == (1:Int))=true∧True))∧(((v18 == (1:Int))=true→((v18 == (1:Int))=true∧((v18 == (1:Int))=true∧True)))∧(((v18 == (1:Int))=true→(v18 == (1:Int))=true)∧cond ((v18 == (1:Int))&&(v16.2.2.2 != v17.2.2.2)) (Q (([]:List (Zc)),(true,(0:Int)))) (Zm IntKind.i64 (y10+(1:Int))∧R10 (y10+(1:Int)))))))))))) (Lp (σ:=Int×List Bool) (fun y12 R12=>let v19:=List.getD y12.2 (Int.toNat y12.1) false;let v20:=List.getD y4.2 (Int.toNat y12.1) Za;let v21:=ZV.fn (v16,(v20,()));cond (decide (y12.1 < ((List.length y4.2:Nat):Int))) (((0:Int)≤y12.1∧y12.1 < ((List.length y4.2:Nat):Int))∧(Int.toNat y12.1 < List.length y4.2∧(((0:Int)≤y12.1∧y12.1 < ((List.length y12.2:Nat):Int))∧(Int.toNat y12.1 < List.length y12.2∧(((!v19)=true→((!v19)=true∧((!v19)=true∧ZV.pre (v16,(v20,())))))∧(((!v19)=true→((!v19)=true∧True))∧((v19=false→(!v19)=true)∧cond (v19||(v21 == (0:Int))) (Zm IntKind.i64 (y12.1+(1:Int))∧R12 ((y12.1+(1:Int)),y12.2)) (ZV.pre (v16,(v20,()))∧(Zm IntKind.i64 (v21*v16.2.2.2)∧(Zm IntKind.i64 (v20.2.2.2 - (v21*v16.2.2.2))∧cond (decide ((v20.2.2.2 - (v21*v16.2.2.2)) < (0:Int))) (Q (([]:List (Zc)),(true,(0:Int)))) (((0:Int)≤y12.1∧y12.1 < ((List.length y12.2:Nat):Int))∧(Int.toNat y12.1 < List.length y12.2∧(Zm IntKind.i64 (y12.1+(1:Int))∧R12 ((y12.1+(1:Int)),(List.set y12.2 (Int.toNat y12.1) true))))))))))))))) (Zm IntKind.i64 (y8.1+(1:Int))∧R8 ((y8.1+(1:Int)),y12.2))) ((0:Int),y8.2))) (0:Int)))) (Lp (σ:=Int×List (Zc)) (fun y10 R10=>let v24:=List.getD y4.2 (Int.toNat y10.1) Za;let v25:=Zag.fn ((y10.2++y2.2.2.2.2),());cond (decide (y10.1 < ((List.length y4.2:Nat):Int))) (((0:Int)≤y10.1∧y10.1 < ((List.length y4.2:Nat):Int))∧(Int.toNat y10.1 < List.length y4.2∧(((0:Int)≤y10.1∧y10.1 < ((List.length y8.2:Nat):Int))∧(Int.toNat y10.1 < List.length y8.2∧cond (!(List.getD y8.2 (Int.toNat y10.1) false)) ((((List.length y10.2+List.length [v24])*48)≤140737488355328∧(List.length y10.2+List.length [v24])≤9223372036854775807)∧(Zm IntKind.i64 (y10.1+(1:Int))∧R10 ((y10.1+(1:Int)),(y10.2++[v24])))) (Zm IntKind.i64 (y10.1+(1:Int))∧R10 ((y10.1+(1:Int)),y10.2)))))) ((((List.length y10.2+List.length y2.2.2.2.2)*48)≤140737488355328∧(List.length y10.2+List.length y2.2.2.2.2)≤9223372036854775807)∧(Zag.pre ((y10.2++y2.2.2.2.2),())∧(((!y2.2.1)=true→((!y2.2.1)=true∧True))∧(((!y2.2.1)=true→((!y2.2.1)=true∧True))∧((y2.2.1=false→(!y2.2.1)=true)∧cond (y2.2.1||decide ((96:Int) < ((List.length v25:Nat):Int))) (Q (([]:List (Zc)),(false,(3:Int)))) (Q (v25,(false,(0:Int)))))))))) ((0:Int),y6.2.1))) ((0:Int),y6.2.2))) ((0:Int),(y2.2.2.2.1,(List.replicate (Int.toNat ((List.length y4.2:Nat):Int)) false))))) ((0:Int),([]:List (Zc))))) ((0:Int),(false,(([]:List (Zc)),(([]:List (Zc)),([]:List (Zc))))))
def ZaY.wp(x0:List (List Zc))(x1:List Zc)(Q:Bool→Prop):Prop:=Lp (σ:=Int) (fun y3 R3=>cond (decide (y3 < ((List.length x0:Nat):Int))) (((0:Int)≤y3∧y3 < ((List.length x0:Nat):Int))∧cond (ZS.fn ((List.getD x0 (Int.toNat y3) ([]:List (Zc))),(x1,()))) (Q true) (Zm IntKind.i64 (y3+(1:Int))∧R3 (y3+(1:Int)))) (Q false)) (0:Int)
def ZU.wp(x0:List (List Zc))(Q:(List (List Zc))×Int→Prop):Prop:=Lp (σ:=Int×List (List (Zc))) (fun y2 R2=>let v0:=List.getD x0 (Int.toNat y2.1) ([]:List (Zc));let v1:=Zab.fn (v0,());cond (decide (y2.1 < ((List.length x0:Nat):Int))) (((0:Int)≤y2.1∧y2.1 < ((List.length x0:Nat):Int))∧(Zab.pre (v0,())∧cond (v1.2.2 != (0:Int)) (Q (([]:List (List (Zc))),v1.2.2)) (((!v1.2.1)=true→((!v1.2.1)=true∧((!v1.2.1)=true∧True)))∧(((!v1.2.1)=true→((!v1.2.1)=true∧True))∧(((!v1.2.1)=true→(!v1.2.1)=true)∧cond ((!v1.2.1)&&(!(ZaY.fn (y2.2,(v1.1,()))))) ((((List.length y2.2+List.length [v1.1])*24)≤140737488355328∧(List.length y2.2+List.length [v1.1])≤9223372036854775807)∧(Zm IntKind.i64 (y2.1+(1:Int))∧R2 ((y2.1+(1:Int)),(y2.2++[v1.1])))) (Zm IntKind.i64 (y2.1+(1:Int))∧R2 ((y2.1+(1:Int)),y2.2))))))) (Q (y2.2,(0:Int)))) ((0:Int),([]:List (List (Zc))))
def Zax.wp(x0:Int)(x1:List (List Zc))(Q:(Int×(List (List Zc)))×Int→Prop):Prop:=let v0:=ZU.fn (x1,());(ZU.pre (x1,())∧(((!(v0.2 != (0:Int)))=true→((!(v0.2 != (0:Int)))=true∧True))∧(((!(v0.2 != (0:Int)))=true→((!(v0.2 != (0:Int)))=true∧True))∧(((v0.2 != (0:Int))=false→(!(v0.2 != (0:Int)))=true)∧cond ((v0.2 != (0:Int))||decide ((400:Int) < ((List.length v0.1:Nat):Int))) (Q (((0:Int),([]:List (List (Zc)))),(3:Int))) (Q ((x0,v0.1),(0:Int)))))))
def Zam.wp(x0:Int×(List (List Zc)))(Q:(Int×(List (List Zc)))×Int→Prop):Prop:=cond (!(ZJ.fn (x0,()))) (Q (((0:Int),([]:List (List (Zc)))),(1:Int))) (Zax.pre (x0.1,(x0.2,()))∧Q (Zax.fn (x0.1,(x0.2,()))))
def ZaR.wp(x0:List Zc)(x1:List Zc)(Q:(List Zc)→Prop):Prop:=let v0:=List.length ([]:List (Zc));let v1:=List.length (([]:List (Zc))++x0);((((v0+List.length x0)*48)≤140737488355328∧(v0+List.length x0)≤9223372036854775807)∧((((v1+List.length x1)*48)≤140737488355328∧(v1+List.length x1)≤9223372036854775807)∧Q ((([]:List (Zc))++x0)++x1)))
def Zw.wp(x0:Int)(x1:Lin)(x2:Int)(x3:Lin)(Q:Lin→Prop):Prop:=(((0:Int)≤((List.length x1.1:Nat):Int)∧(((List.length x1.1:Nat):Int)≤((List.length x1.1:Nat):Int)∧((((List.length x1.1:Nat):Int)*((8:Nat):Int))≤(140737488355328:Int)∧((List.length x1.1:Nat):Int)≤(9223372036854775807:Int))))∧(Zm IntKind.i64 (x0*x1.2)∧(Zm IntKind.i64 (x2*x3.2)∧(Zm IntKind.i64 ((x0*x1.2)+(x2*x3.2))∧Lp (σ:=Int×List Int) (fun y5 R5=>let v2:=List.getD x1.1 (Int.toNat y5.1) (0:Int);let v3:=List.getD x3.1 (Int.toNat y5.1) (0:Int);cond (decide (y5.1 < ((List.length x1.1:Nat):Int))) (((0:Int)≤y5.1∧y5.1 < ((List.length x1.1:Nat):Int))∧(Zm IntKind.i64 (x0*v2)∧(((0:Int)≤y5.1∧y5.1 < ((List.length x3.1:Nat):Int))∧(Zm IntKind.i64 (x2*v3)∧(Zm IntKind.i64 ((x0*v2)+(x2*v3))∧(((0:Int)≤y5.1∧y5.1 < ((List.length y5.2:Nat):Int))∧(Int.toNat y5.1 < List.length y5.2∧(Zm IntKind.i64 (y5.1+(1:Int))∧R5 ((y5.1+(1:Int)),(List.set y5.2 (Int.toNat y5.1) ((x0*v2)+(x2*v3)))))))))))) (Q (y5.2,((x0*x1.2)+(x2*x3.2))))) ((0:Int),(List.replicate (Int.toNat ((List.length x1.1:Nat):Int)) (0:Int)))))))
def ZaL.wp(x0:Zc)(Q:(List Zc)×Int→Prop):Prop:=let v1:=List.replicate (Int.toNat ((List.length x0.2.2.1:Nat):Int)) (0:Int);let v2:=Zw.fn ((-(1:Int)),(x0.2.2,((-(1:Int)),((v1,(1:Int)),()))));let v9:=[((0:Int),((0:Int),(v1,(0:Int))))];cond (!(Zaq.fn (x0,()))) (Q (([]:List (Zc)),(1:Int))) (((0:Int)≤((List.length x0.2.2.1:Nat):Int)∧(((List.length x0.2.2.1:Nat):Int)≤((List.length x0.2.2.1:Nat):Int)∧((((List.length x0.2.2.1:Nat):Int)*((8:Nat):Int))≤(140737488355328:Int)∧((List.length x0.2.2.1:Nat):Int)≤(9223372036854775807:Int))))∧Zod (σ:=(List (Zc))×Bool×Bool×Int) (fun y2=>Lp (σ:=Int×List (Zc)) (fun y3 R3=>let v8:=List.getD y2.1 (Int.toNat y3.1) Za;let v11:=[(((Zt.fn (v8,())).1).1,((((Zt.fn (v8,())).1).2).1,((((Zt.fn (v8,())).1).2).2)))];cond (decide (y3.1 < ((List.length y2.1:Nat):Int))) (((0:Int)≤y3.1∧y3.1 < ((List.length y2.1:Nat):Int))∧(Zt.pre (v8,())∧cond ((Zt.fn (v8,())).2 == (1:Int)) ((((List.length y3.2+List.length v9)*48)≤140737488355328∧(List.length y3.2+List.length v9)≤9223372036854775807)∧(Zm IntKind.i64 (y3.1+(1:Int))∧R3 ((y3.1+(1:Int)),(y3.2++v9)))) ((((Zt.fn (v8,())).2 == (0:Int))=true→(((Zt.fn (v8,())).2 == (0:Int))=true∧True))∧((((Zt.fn (v8,())).2 == (0:Int))=true→(((Zt.fn (v8,())).2 == (0:Int))=true∧True))∧((((Zt.fn (v8,())).2 == (0:Int))=true→((Zt.fn (v8,())).2 == (0:Int))=true)∧cond (((Zt.fn (v8,())).2 == (0:Int))&&(!(Zaq.fn ((((Zt.fn (v8,())).1).1,((((Zt.fn (v8,())).1).2).1,((((Zt.fn (v8,())).1).2).2))),())))) (Q (([]:List (Zc)),(3:Int))) (cond ((Zt.fn (v8,())).2 == (0:Int)) ((((List.length y3.2+List.length v11)*48)≤140737488355328∧(List.length y3.2+List.length v11)≤9223372036854775807)∧(Zm IntKind.i64 (y3.1+(1:Int))∧R3 ((y3.1+(1:Int)),(y3.2++v11)))) (Zm IntKind.i64 (y3.1+(1:Int))∧R3 ((y3.1+(1:Int)),y3.2)))))))) (cond (decide ((400:Int) < ((List.length y3.2:Nat):Int))) (Q (([]:List (Zc)),(3:Int))) (Q (y3.2,(0:Int))))) ((0:Int),([]:List (Zc)))) (fun J2=>cond (x0.1 == (0:Int)) (Zw.pre ((-(1:Int)),(x0.2.2,((-(1:Int)),((v1,(1:Int)),()))))∧J2 (([((0:Int),((0:Int),v2))]),((x0.1 == (0:Int)),((x0.1 == (0:Int)),x0.1)))) (cond (x0.1 == (1:Int)) (Zw.pre ((1:Int),(x0.2.2,((-(1:Int)),((v1,(1:Int)),()))))∧(Zw.pre ((-(1:Int)),(x0.2.2,((-(1:Int)),((v1,(1:Int)),()))))∧J2 (([((0:Int),((0:Int),(Zw.fn ((1:Int),(x0.2.2,((-(1:Int)),((v1,(1:Int)),()))))))),((0:Int),((0:Int),v2))]),((x0.1 == (0:Int)),((x0.1 == (0:Int)),x0.1))))) (Lp (σ:=Int×List (Zc)) (fun y3 R3=>let v7:=[((2:Int),(x0.2.1,(Zw.fn ((1:Int),(x0.2.2,((-y3.1),((v1,(1:Int)),())))))))];cond (decide (y3.1 < x0.2.1)) (Zm IntKind.i64 (-y3.1)∧(Zw.pre ((1:Int),(x0.2.2,((-y3.1),((v1,(1:Int)),()))))∧((((List.length y3.2+List.length v7)*48)≤140737488355328∧(List.length y3.2+List.length v7)≤9223372036854775807)∧(Zm IntKind.i64 (y3.1+(1:Int))∧R3 ((y3.1+(1:Int)),(y3.2++v7)))))) (J2 (y3.2,((x0.1 == (0:Int)),((x0.1 == (0:Int)),x0.1))))) ((1:Int),([]:List (Zc)))))))
def Zba.wp(x0:Int×(List (List Zc)))(x1:Int×(List (List Zc)))(Q:(Int×(List (List Zc)))×Int→Prop):Prop:=let v0:=Zbp.fn (x0,(x1,()));let v1:=Zam.fn (x0,());let v2:=Zam.fn (x1,());cond (v0 != (0:Int)) (Q (((0:Int),([]:List (List (Zc)))),v0)) (((!(v1.2 != (0:Int)))=true→((!(v1.2 != (0:Int)))=true∧True))∧(((v1.2 != (0:Int))=false→(!(v1.2 != (0:Int)))=true)∧cond ((v1.2 != (0:Int))||(v2.2 != (0:Int))) (Q (((0:Int),([]:List (List (Zc)))),(3:Int))) (Lp (σ:=Int×List (List (Zc))) (fun y3 R3=>let v4:=List.getD v2.1.2 (Int.toNat y3.1) ([]:List (Zc));cond (decide (y3.1 < ((List.length v2.1.2:Nat):Int))) (((0:Int)≤y3.1∧y3.1 < ((List.length v2.1.2:Nat):Int))∧Lp (σ:=Int×List (List (Zc))) (fun y5 R5=>let v3:=List.getD y3.2 (Int.toNat y5.1) ([]:List (Zc));let v5:=ZaR.fn (v3,(v4,()));let v6:=Zab.fn (v5,());let v13:=Zax.fn (x0.1,(y5.2,()));cond (decide (y5.1 < ((List.length y3.2:Nat):Int))) (((0:Int)≤y5.1∧y5.1 < ((List.length y3.2:Nat):Int))∧(ZaR.pre (v3,(v4,()))∧(Zab.pre (v5,())∧cond (v6.2.2 != (0:Int)) (Q (((0:Int),([]:List (List (Zc)))),v6.2.2)) (cond v6.2.1 ((((List.length y5.2+List.length [v3])*24)≤140737488355328∧(List.length y5.2+List.length [v3])≤9223372036854775807)∧(Zm IntKind.i64 (y5.1+(1:Int))∧R5 ((y5.1+(1:Int)),(y5.2++[v3])))) (Lp (σ:=Int×List (List (Zc))) (fun y7 R7=>let v8:=ZaL.fn ((List.getD v4 (Int.toNat y7.1) Za),());let v9:=List.take (Int.toNat y7.1) v4;let v10:=ZaR.fn (v3,(v9,()));cond (decide (y7.1 < ((List.length v4:Nat):Int))) (((0:Int)≤y7.1∧y7.1 < ((List.length v4:Nat):Int))∧cond (v8.2 != (0:Int)) (Q (((0:Int),([]:List (List (Zc)))),v8.2)) (Lp (σ:=Int×List (List (Zc))) (fun y9 R9=>let v11:=List.getD v8.1 (Int.toNat y9.1) Za;let v12:=ZaR.fn (v10,([v11],()));cond (decide (y9.1 < ((List.length v8.1:Nat):Int))) (((0:Int)≤y9.1∧y9.1 < ((List.length v8.1:Nat):Int))∧(((0:Int)≤y7.1∧y7.1≤((List.length v4:Nat):Int))∧(ZaR.pre (v3,(v9,()))∧(ZaR.pre (v10,([v11],()))∧((((List.length y9.2+List.length [v12])*24)≤140737488355328∧(List.length y9.2+List.length [v12])≤9223372036854775807)∧(Zm IntKind.i64 (y9.1+(1:Int))∧R9 ((y9.1+(1:Int)),(y9.2++[v12])))))))) (Zm IntKind.i64 (y7.1+(1:Int))∧R7 ((y7.1+(1:Int)),y9.2))) ((0:Int),y7.2))) (Zm IntKind.i64 (y5.1+(1:Int))∧R5 ((y5.1+(1:Int)),y7.2))) ((0:Int),y5.2)))))) (Zax.pre (x0.1,(y5.2,()))∧cond (v13.2 != (0:Int)) (Q (((0:Int),([]:List (List (Zc)))),v13.2)) (Zm IntKind.i64 (y3.1+(1:Int))∧R3 ((y3.1+(1:Int)),v13.1.2)))) ((0:Int),([]:List (List (Zc))))) (Q ((x0.1,y3.2),(0:Int)))) ((0:Int),v1.1.2))))
def Z2.wp(x0:Int)(x1:Int)(x2:List (Int×(List (List Zc))))(Q:Bool→Prop):Prop:=Lp (σ:=Int×Int) (fun y4 R4=>let v0:=List.getD x2 (Int.toNat y4.1) ((0:Int),([]:List (List (Zc))));cond (decide (y4.1 < ((List.length x2:Nat):Int))) (((0:Int)≤y4.1∧y4.1 < ((List.length x2:Nat):Int))∧Lp (σ:=Int) (fun y6 R6=>cond (decide (y6 < ((List.length v0.2:Nat):Int))) (((0:Int)≤y6∧y6 < ((List.length v0.2:Nat):Int))∧cond (decide (x1 < ((List.length (List.getD v0.2 (Int.toNat y6) ([]:List (Zc))):Nat):Int))) (Q false) (R6 (IntKind.wrap IntKind.i64 (y6+(1:Int))))) (R4 ((IntKind.wrap IntKind.i64 (y4.1+(1:Int))),(IntKind.wrap IntKind.i64 (y4.2+((List.length v0.2:Nat):Int)))))) (0:Int)) (Q (decide (y4.2≤x0)))) ((0:Int),(0:Int))
theorem ZaU.spec(b:Bool):ZaU.wp b (fun r=>r=ZaU.fn (b,())):=by cases b<;>rfl
theorem Zad.spec(l:Lin)(g k:Int)(hp:Zad.pre (l,g,k,())):Zad.wp l g k (fun r=>r=Zad.fn (l,g,k,())):=by
 obtain⟨h1,h2,h3⟩:=hp
 simp only at h1 h2 h3
 simp only[Zad.wp,Int.toNat_natCast]
 refine⟨⟨by omega,by omega,by omega,by omega⟩,?_⟩
 refine Lp.fill l.1 0 0 (·.tdiv g) (by omega) (fun i out R hi hi' hf ho hR=>?_) (fun R=>?_)
 ·simp only[decide_eq_true hi',Int.toNat_natCast]
  have hn:=h3 _ (Zi (d:=0) hi)
  exact⟨⟨by omega,hi'⟩,⟨h1,Zc4 hn.1 hn.2⟩,⟨by omega,by omega⟩,by omega,hf,hR⟩
 ·simp only[Int.lt_irrefl,decide_false,cond_false]
  rfl
theorem Zbe.spec(k:Int):Zbe.wp k (fun r=>r=Zbe.fn (k,())):=by
 simp only[Zbe.wp,Zbe.fn,Zcz]
 by_cases h:k=0
 ·subst h;rfl
 ·by_cases h2:k=1
  ·subst h2;rfl
  ·simp[h,h2]
theorem Zol(l:List Int):∀ g:Nat,l.foldl (fun g n=>Nat.gcd g n.natAbs) g=Nat.gcd g (Zbi l):=by
 induction l with
 | nil=>intro g;simp[Zbi]
 | cons m l ih =>
   intro g
   simp only[List.foldl_cons,Zbi]
   rw[ih,ih (Nat.gcd 0 m.natAbs),Nat.gcd_zero_left,Nat.gcd_assoc]
theorem ZgX(m:Int)(l:List Int):Zbi (m::l)=Nat.gcd m.natAbs (Zbi l):=by
 simp only[Zbi,List.foldl_cons]
 rw[Zol,Nat.gcd_zero_left];rfl
theorem Zrt(m:Int)(l:List Int):Zbi (l++[m])=Nat.gcd (Zbi l) m.natAbs:=by
 simp only[Zbi,List.foldl_append,List.foldl_cons,List.foldl_nil]
theorem ZsW(m:Int)(l:List Int):Zbi (l++[m])=Zbi (m::l):=by rw[ZgX,Zrt,Nat.gcd_comm]
theorem Zt.spec(c:Zc)(hp:Zt.pre (c,())):Zt.wp c (fun r=>r=Zt.fn (c,())):=by
 obtain⟨hk,hb⟩:condB c:=hp
 obtain⟨h1,h2,h3⟩:=id hb
 unfold ZeD at h3
 have hgl:Zbi c.2.2.1≤9223372036854775807:=Zld hb.ints
 have hfn:Zt.fn (c,())=ZbF c:=rfl
 simp only[Zt.wp,Zbf.fn,Zbt.fn,ZaU.fn,hfn]
 refine⟨hb.ints,?_⟩
 have hov:∀ g k:Int,g≠0→Zad.pre (c.2.2,g,k,()):=fun g k hg=>⟨hg,h1,hb.ints⟩
 have hkf:∀ g:Int,Zm .i64 (c.2.2.2.tdiv g):=fun g=>Zc4 (by omega) (by omega)
 rcases hk with hk | hk | ⟨hk,hm1,hm2⟩
 ·have hr:ZbF c=geF c:=by simp[ZbF,hk]
  simp only[hk,beq_self_eq_true,cond_true,hr]
  unfold geF
  by_cases hg:Zbi c.2.2.1=0
  ·rw[if_pos hg,hg];rfl
  ·rw[beq_eq_false_iff_ne.2 (show ((Zbi c.2.2.1:Nat):Int)≠0 by omega),if_neg hg]
   have hf:ZaA.fn (c.2.2.2,((Zbi c.2.2.1:Nat):Int),())=(c.2.2.2 / ((Zbi c.2.2.1:Nat):Int),0):=by
    simp only[ZaA.fn,ZaH.fn]
    rw[if_neg (show ¬ ((Zbi c.2.2.1:Nat):Int) < 1 by omega)]
   rw[hf]
   exact⟨⟨by show -9223372036854775807≤c.2.2.2;omega,by show c.2.2.2≤9223372036854775807;omega⟩,hov _ _ (by omega),rfl⟩
 ·have hr:ZbF c=eqF c:=by simp[ZbF,hk]
  simp only[hk,show ((1:Int) == 0)=false from rfl,beq_self_eq_true,cond_true,cond_false,hr]
  unfold eqF
  by_cases hz:Zbi c.2.2.1=0
  ·rw[if_pos (.inl hz),hz]
   simp
  ·have hzi:((Zbi c.2.2.1:Nat):Int)≠0:=by omega
   rw[beq_eq_false_iff_ne.2 hzi]
   refine⟨hzi,?_⟩
   by_cases hm:c.2.2.2.tmod (Zbi c.2.2.1)≠0
   ·rw[bne_iff_ne.2 hm,if_pos (.inr hm)]
    simp[hz]
   ·have hm':c.2.2.2.tmod (Zbi c.2.2.1)=0:=by simpa using hm
    rw[hm',bne_self_eq_false,cond_false,if_neg (by simp[hz])]
    refine Lp.iter c.2.2.1.length (fun i y=>y=(i:Int)∧∀ j,j < i→c.2.2.1.getD j 0=0) ⟨rfl,fun j hj=>absurd hj (by omega)⟩ ?_
    rintro i y hle ⟨rfl,hi⟩ R hR
    by_cases e:i < c.2.2.1.length
    ·rw[decide_eq_true (show (i:Int) < (c.2.2.1.length:Int) by omega)]
     refine⟨⟨by omega,by omega⟩,?_⟩
     simp only[Int.toNat_natCast]
     by_cases hn:c.2.2.1.getD i 0=0
     ·simp only[hn,bne_self_eq_false,cond_false]
      refine⟨⟨by omega,by omega⟩,hR e _ ⟨by omega,fun j hj=>?_⟩⟩
      by_cases ej:j=i
      ·subst ej;exact hn
      ·exact hi j (by omega)
     ·simp only[bne_iff_ne.2 hn,cond_true]
      have hfn:Za7 c.2.2.1=decide (c.2.2.1.getD i 0 < 0):=by
       rw[Zdj hi,List.drop_eq_getElem_cons e]
       rw[ZN e] at hn
       simp only[Za7,if_neg hn,ZN e]
      by_cases hneg:c.2.2.1.getD i 0 < 0
      ·rw[decide_eq_true hneg] at hfn
       simp only[decide_eq_true hneg,cond_true]
       have hs:Zbv c=-((Zbi c.2.2.1:Nat):Int):=by simp[Zbv,hfn]
       rw[hs]
       exact⟨⟨by omega,by omega⟩,⟨by omega,hkf _⟩,hov _ _ (by omega),rfl⟩
      ·rw[decide_eq_false hneg] at hfn
       simp only[decide_eq_false hneg,cond_false]
       have hs:Zbv c=((Zbi c.2.2.1:Nat):Int):=by simp[Zbv,hfn]
       rw[hs]
       exact⟨⟨hzi,hkf _⟩,hov _ _ hzi,rfl⟩
    ·have:i=c.2.2.1.length:=by omega
     subst this
     simp only[Int.lt_irrefl,decide_false,cond_false]
     have hfn:Za7 c.2.2.1=false:=by
      rw[Zdj hi,List.drop_length];rfl
     have hs:Zbv c=((Zbi c.2.2.1:Nat):Int):=by simp[Zbv,hfn]
     rw[hs]
     exact⟨⟨hzi,hkf _⟩,hov _ _ hzi,rfl⟩
 ·have hr:ZbF c=Zk6 c:=by simp[ZbF,hk]
  simp only[hk,show ((2:Int) == 0)=false from rfl,show ((2:Int) == 1)=false from rfl,cond_false,hr,Int.toNat_natCast]
  refine⟨⟨by omega,by omega,by omega,by omega⟩,?_⟩
  have hmod:∀ n,ZaQ.fn (n,c.2.1,())=(n % c.2.1,0):=fun n=>by
   simp only[ZaQ.fn,Zbq.fn];rw[if_neg (by omega)]
  have hmp:∀ n,ZaQ.pre (n,c.2.1,()):=fun n=>by show c.2.1≤9223372036854775807;omega
  have hr:∀ n:Int,0≤n % c.2.1∧n % c.2.1 < c.2.1:=fun n=>⟨Int.emod_nonneg _ (by omega),Int.emod_lt_of_pos _ (by omega)⟩
  simp only[hmod]
  refine Lp.fill c.2.2.1 0 0 (· % c.2.1) (by omega) (fun i out R hi hi' hf ho hR=>?_) (fun R=>?_)
  ·simp only[decide_eq_true hi',Int.toNat_natCast]
   exact⟨⟨by omega,hi'⟩,hmp _,⟨by omega,by omega⟩,by omega,hf,hR⟩
  ·simp only[Int.lt_irrefl,decide_false,cond_false,List.nil_append,ZsW]
   have hdg:Zcr c=Zbi (c.2.1::c.2.2.1.map (· % c.2.1)):=rfl
   have hpos:=Zgu hm1 (c.2.2.1.map (· % c.2.1))
   have hle:=Zff hm1 (c.2.2.1.map (· % c.2.1))
   rw[← hdg] at hpos hle ⊢
   have hq:=hr c.2.2.2
   refine⟨hmp _,⟨by simp;omega,by simp;omega⟩,⟨by simp;omega,by simp;omega⟩,fun n hn=>?_,by omega,?_⟩
   ·rcases List.mem_append.1 hn with hn | hn
    ·obtain⟨a,_,rfl⟩:=List.mem_map.1 hn
     have:=hr a;omega
    ·simp only[List.mem_singleton] at hn;omega
   ·unfold Zk6
    by_cases ht:(c.2.2.2 % c.2.1).tmod (Zcr c)≠0
    ·rw[bne_iff_ne.2 ht,if_pos ht];rfl
    ·rw[if_neg ht]
     have ht:(c.2.2.2 % c.2.1).tmod (Zcr c)=0:=by simpa using ht
     rw[ht,bne_self_eq_false]
     by_cases he:c.2.1=Zcr c
     ·rw[if_pos he]
      simp only[beq_iff_eq.2 he,cond_true,cond_false]
     ·rw[if_neg he,beq_eq_false_iff_ne.2 he]
      refine⟨⟨by omega,Zc4 (by omega) (by omega)⟩,⟨by omega,Zc4 (by omega) (by omega)⟩,⟨by show ((Zcr c:Nat):Int)≠0;omega,by simpa using h1,fun n hn=>?_⟩,rfl⟩
      obtain⟨a,_,rfl⟩:=List.mem_map.1 hn
      have:=hr a
      constructor<;>omega
local macro "gh" : tactic => `(tactic| (intro h; first | exact ⟨h, trivial⟩ | exact ⟨h, h, trivial⟩ | exact h | exact ⟨h, h, by omega, by omega⟩))
theorem Zub(C:List Int):(Zcm C).length=C.length:=by simp[Zcm]
theorem ZrI{α:Type} [DecidableEq α]{u v:List α}{x y:α}(h:u.length=v.length):decide (u++[x]=v++[y])=(decide (u=v)&&decide (x=y)):=by
 by_cases h1:u=v
 ·subst h1
  by_cases h2:x=y
  ·subst h2;simp
  ·simp[h2]
 ·have:¬ u++[x]=v++[y]:=fun e=>h1 (List.append_inj e h).1
  simp[this,h1]
theorem ZV.spec(a b:Zc)(hp:ZV.pre (a,b,())):ZV.wp a b (fun r=>r=ZV.fn (a,b,())):=by
 obtain⟨hl,hm,hi⟩:=hp
 simp only at hl hm hi
 have hfn:ZV.fn (a,b,())=ZbB a b:=rfl
 simp only[ZV.wp,hfn]
 refine Lp.iter a.2.2.1.length (fun i y=>y=((i:Int),decide (a.2.2.1.take i=Zcm (b.2.2.1.take i)),decide (a.2.2.1.take i=b.2.2.1.take i))) (by simp[Zcm]) ?_
 rintro i y hle rfl R hR
 by_cases e:i < a.2.2.1.length
 ·have hn:=hi _ (Zi (d:=0) (show i < b.2.2.1.length by omega))
  have ha:=Zy 0 e
  have hb:=Zy 0 (show i < b.2.2.1.length by omega)
  simp only[decide_eq_true (show (i:Int) < (a.2.2.1.length:Int) by omega),Int.toNat_natCast,cond_true]
  refine⟨by gh,by gh,by gh,by gh,by gh,by gh,by gh,by gh,by gh,by gh,by gh,by gh,by gh,by gh,by gh,by gh,by gh,by gh,fun h=>⟨h,by omega,by omega⟩,by gh,by gh,⟨by omega,by omega⟩,hR e _ ?_⟩
  have hnb:Zcm (b.2.2.1.take i++[b.2.2.1.getD i 0])=Zcm (b.2.2.1.take i)++[-b.2.2.1.getD i 0]:=by simp[Zcm]
  rw[ha,hb,hnb,ZrI (by rw[Zub];simp;omega),ZrI (by simp;omega)]
  rfl
 ·have:i=a.2.2.1.length:=by omega
  subst this
  simp only[Int.lt_irrefl,decide_false,cond_false,List.take_length]
  rw[hl,List.take_length]
  unfold ZbB
  by_cases h1:a.2.2.1=b.2.2.1
  ·rw[if_pos h1,decide_eq_true h1];rfl
  ·rw[if_neg h1,decide_eq_false h1]
   by_cases h2:a.2.2.1=Zcm b.2.2.1
   ·rw[if_pos h2,decide_eq_true h2];rfl
   ·rw[if_neg h2,decide_eq_false h2];rfl
theorem Zaj.spec(a b:List Int)(hla:a.length≤9223372036854775807)(hp:Zaj.pre (a,b,())):Zaj.wp a b (fun r=>r=Zaj.fn (a,b,())):=by
 have hl:a.length=b.length:=hp
 have hfn:Zaj.fn (a,b,())=Zdl a b:=rfl
 simp only[Zaj.wp,hfn]
 refine Lp.iter a.length (fun i y=>y=(i:Int)∧Zdl a b=Zdl (a.drop i) (b.drop i)) ⟨rfl,rfl⟩ ?_
 rintro i y hle ⟨rfl,hd⟩ R hR
 by_cases e:i < a.length
 ·have hb:i < b.length:=by omega
  simp only[decide_eq_true (show (i:Int) < (a.length:Int) by omega),Int.toNat_natCast,cond_true]
  rw[List.drop_eq_getElem_cons e,List.drop_eq_getElem_cons hb] at hd
  simp only[Zdl] at hd
  simp only[ZN e,ZN hb]
  refine⟨⟨by omega,by omega⟩,⟨by omega,by omega⟩,?_⟩
  unfold ZhJ at hd
  by_cases h1:a[i] < b[i]
  ·rw[if_pos h1,if_neg (by decide)] at hd
   rw[decide_eq_true h1]
   exact hd.symm
  ·rw[if_neg h1] at hd
   rw[decide_eq_false h1]
   refine⟨⟨by omega,by omega⟩,⟨by omega,by omega⟩,?_⟩
   by_cases h2:b[i] < a[i]
   ·rw[if_pos h2,if_neg (by decide)] at hd
    rw[decide_eq_true h2]
    exact hd.symm
   ·rw[if_neg h2,if_pos rfl] at hd
    rw[decide_eq_false h2]
    exact⟨⟨by omega,by omega⟩,hR e _ ⟨rfl,hd⟩⟩
 ·have:i=a.length:=by omega
  subst this
  simp only[Int.lt_irrefl,decide_false,cond_false]
  rw[List.drop_length,hl,List.drop_length] at hd
  exact hd.symm
theorem Zbl.spec(l m:Lin)(hp:Zbl.pre (l,m,())):Zbl.wp l m (fun r=>r=Zbl.fn (l,m,())):=by
 obtain⟨h1,h2⟩:=hp
 simp only at h1 h2
 simp only[Zbl.wp,List.nil_append]
 refine⟨⟨by simp;omega,by simp;omega⟩,⟨by simp;omega,by simp;omega⟩,⟨by simp;omega,by simp;omega⟩,⟨by simp;omega,by simp;omega⟩,?_,?_⟩
 rotate_left
 ·trivial
 show (l.1++[l.2]).length=(m.1++[m.2]).length
 simp[h1]
theorem ZfR:∀ {a b:List Int} {x y:Int},a.length=b.length→Zdl (a++[x]) (b++[y])=if Zdl a b=0 then ZhJ x y else Zdl a b
 | [],[],x,y,_=>by
   simp only[List.nil_append,Zdl]
   by_cases h:ZhJ x y=0
   ·simp[h]
   ·simp[h]
 | [],_::_,x,y,h=>by simp at h
 | _::_,[],x,y,h=>by simp at h
 | u::a,v::b,x,y,h=>by
   simp only[List.cons_append,Zdl]
   by_cases h1:ZhJ u v=0
   ·simp only[h1,if_true]
    exact ZfR (by simpa using h)
   ·simp only[if_neg h1]
theorem Zbd.spec(a b:Zc)(hp:Zbd.pre (a,b,())):Zbd.wp a b (fun r=>r=Zbd.fn (a,b,())):=by
 obtain⟨h1,h2⟩:=hp
 simp only at h1 h2
 simp only[Zbd.wp,Zaj.fn,Zbe.fn,Zbl.fn,Zbd.fn]
 refine⟨rfl,?_⟩
 have e:Zh3 a b=if Zdl [Zcz a.1,a.2.1] [Zcz b.1,b.2.1]=0 then Zdl (a.2.2.1++[a.2.2.2]) (b.2.2.1++[b.2.2.2]) else Zdl [Zcz a.1,a.2.1] [Zcz b.1,b.2.1]:=by
  rw[Zik,ZfR h1]
  have e2:Zdl [Zcz a.1,a.2.1] [Zcz b.1,b.2.1]=if ZhJ (Zcz a.1) (Zcz b.1)=0 then ZhJ a.2.1 b.2.1 else ZhJ (Zcz a.1) (Zcz b.1):=by
   have:=ZfR (a:=[Zcz a.1]) (b:=[Zcz b.1]) (x:=a.2.1) (y:=b.2.1) rfl
   simp only[List.singleton_append] at this
   rw[this]
   have e3:Zdl [Zcz a.1] [Zcz b.1]=ZhJ (Zcz a.1) (Zcz b.1):=by
    simp only[Zdl];split
    ·rename_i h;exact h.symm
    ·rfl
   rw[e3]
  rw[e2]
  split
  ·split<;>rfl
  ·rfl
 by_cases h3:Zdl [Zcz a.1,a.2.1] [Zcz b.1,b.2.1]=0
 ·rw[if_pos h3] at e
  simp only[h3,bne_self_eq_false,cond_false]
  exact⟨⟨h1,h2⟩,e.symm⟩
 ·rw[if_neg h3] at e
  simp only[bne_iff_ne.2 h3,cond_true]
  exact e.symm
theorem Zr1{c:Zc}:∀ {l:List Zc} {j:Nat},(∀ i,i < j→Zh3 (l.getD i Za) c < 0)→j≤l.length→Zh4 c l=l.take j++Zh4 c (l.drop j)
 | l,0,_,_=>by simp
 | [],j+1,_,h=>by simp at h
 | d::l,j+1,h,h2=>by
   have h0:=h 0 (by omega)
   simp at h0
   simp only[Zh4,if_pos h0,List.take_succ_cons,List.drop_succ_cons,List.cons_append]
   rw[Zr1 (l:=l) (j:=j) (fun i hi=>by have:=h (i+1) (by omega);simpa using this) (by simpa using h2)]
theorem ZoS(c:Zc):∀ l:List Zc,(Zh4 c l).length≤l.length+1
 | []=>by simp[Zh4]
 | d::l=>by
   have:=ZoS c l
   simp only[Zh4]
   split
   ·simp only[List.length_cons];omega
   ·split
    ·simp
    ·simp
theorem Zqw{l:List Zc}{i:Nat}(h:i < l.length):Za8 (l.take (i+1))=Zh4 (l.getD i Za) (Za8 (l.take i)):=by
 rw[Zy Za h,Za8,List.foldl_append];rfl
theorem ZrM:∀ (l:List Zc),(Za8 l).length≤l.length:=by
 have key:∀ (l out:List Zc),(l.foldl (fun out c=>Zh4 c out) out).length≤out.length+l.length:=by
  intro l
  induction l with
  | nil=>intro out;simp
  | cons c l ih =>
    intro out
    have:=ih (Zh4 c out)
    have:=ZoS c out
    simp only[List.foldl_cons,List.length_cons];omega
 intro l
 have:=key l []
 simpa[Za8] using this
theorem ZsS(l:List Zc):∀ x∈Za8 l,x∈l:=by
 have key:∀ (l out:List Zc),∀ x∈l.foldl (fun out c=>Zh4 c out) out,x∈l∨x∈out:=by
  intro l
  induction l with
  | nil=>intro out x hx;exact .inr hx
  | cons c l ih =>
    intro out x hx
    rcases ih _ x hx with h | h
    ·exact .inl (by simp[h])
    ·rcases ZgJ.1 h with rfl | h
     ·exact .inl (by simp)
     ·exact .inr h
 intro x hx
 exact (key l [] x hx).elim id (by simp)
theorem Zag.spec(l:List Zc)(hp:Zag.pre (l,())):Zag.wp l (fun r=>r=Zag.fn (l,())):=by
 obtain⟨hl,n,hn,hd⟩:=hp
 simp only at hl hd
 have hfn:Zag.fn (l,())=Za8 l:=rfl
 simp only[Zag.wp,hfn,Zbd.fn,Za3.fn,List.nil_append]
 refine Lp.iter l.length (fun i y=>y=((i:Int),Za8 (l.take i))) (by simp[Za8]) ?_
 rintro i y hle rfl R hR
 by_cases e:i < l.length
 ·simp only[decide_eq_true (show (i:Int) < (l.length:Int) by omega),Int.toNat_natCast,cond_true]
  refine⟨⟨by omega,by omega⟩,?_⟩
  have hst:=Zqw e
  have hol:=ZrM (l.take i)
  have hdc:(l.getD i Za).2.2.1.length=n:=hd _ (Zi e)
  have hds:∀ j,j < (Za8 (l.take i)).length→((Za8 (l.take i)).getD j Za).2.2.1.length=n:=fun j hj=>hd _ (List.mem_of_mem_take (ZsS _ _ (Zi hj)))
  rw[List.length_take] at hol
  have hR':=hR e ((i:Int)+1,Zh4 (l.getD i Za) (Za8 (l.take i))) (by rw[hst];rfl)
  clear hR hst
  refine Lp.iter (Za8 (l.take i)).length (fun j y=>y=(j:Int)∧∀ k,k < j→Zh3 ((Za8 (l.take i)).getD k Za) (l.getD i Za) < 0) ⟨rfl,fun k hk=>absurd hk (by omega)⟩ ?_
  rintro j y hjl ⟨rfl,hj⟩ R' hR2
  have hins:=Zr1 hj hjl
  simp only[Int.toNat_natCast]
  by_cases e2:j < (Za8 (l.take i)).length
  ·have hds':=hds j e2
   simp only[decide_eq_true (show (j:Int) < ((Za8 (l.take i)).length:Int) by omega),Bool.true_and]
   refine⟨fun h=>⟨h,h,by omega,by omega⟩,fun h=>⟨h,trivial⟩,fun h=>⟨h,h,⟨hds'.trans hdc.symm,by show ((Za8 (l.take i)).getD j Za).2.2.1.length≤_;omega⟩⟩,fun h=>⟨h,trivial⟩,fun h=>h,?_⟩
   rw[List.drop_eq_getElem_cons e2] at hins
   by_cases h1:Zh3 ((Za8 (l.take i)).getD j Za) (l.getD i Za) < 0
   ·simp only[decide_eq_true h1,cond_true]
    refine⟨⟨by omega,by omega⟩,hR2 e2 _ ⟨rfl,fun k hk=>?_⟩⟩
    by_cases ek:k=j
    ·subst ek;exact h1
    ·exact hj k (by omega)
   ·simp only[decide_eq_false h1,cond_false]
    refine⟨fun h=>⟨h,h,by omega,by omega⟩,fun h=>⟨h,trivial⟩,fun h=>⟨h,h,trivial⟩,fun h=>h,?_⟩
    rw[ZN e2] at h1
    by_cases h2:(Za8 (l.take i)).getD j Za=l.getD i Za
    ·rw[decide_eq_true h2]
     refine⟨⟨by omega,by omega⟩,?_⟩
     rw[ZN e2] at h2
     simp only[Zh4,if_neg h1,if_pos h2] at hins
     rw[← List.drop_eq_getElem_cons e2,List.take_append_drop] at hins
     rw[hins] at hR'
     exact hR'
    ·rw[decide_eq_false h2]
     rw[ZN e2] at h2
     simp only[Zh4,if_neg h1,if_neg h2] at hins
     rw[← List.drop_eq_getElem_cons e2] at hins
     refine⟨⟨by omega,by omega⟩,⟨by simp;omega,by simp;omega⟩,⟨by simp;omega,by simp;omega⟩,⟨by omega,by omega⟩,⟨by simp;omega,by simp;omega⟩,⟨by omega,by omega⟩,?_⟩
     rw[hins] at hR'
     simpa using hR'
  ·have:j=(Za8 (l.take i)).length:=by omega
   subst this
   simp only[Int.lt_irrefl,decide_false,Bool.false_and,cond_false]
   refine⟨fun h=>(by cases h),fun h=>(by cases h),fun h=>(by cases h),fun h=>(by cases h),fun h=>(by cases h),fun h=>(by cases h),fun h=>(by cases h),fun h=>(by cases h),fun h=>(by cases h),⟨by omega,by omega⟩,⟨by simp;omega,by simp;omega⟩,⟨by simp;omega,by simp;omega⟩,⟨by omega,by omega⟩,⟨by simp;omega,by simp;omega⟩,⟨by omega,by omega⟩,?_⟩
   rw[List.drop_length] at hins ⊢
   simp only[Zh4] at hins
   rw[hins] at hR'
   simpa using hR'
 ·have:i=l.length:=by omega
  subst this
  simp only[Int.lt_irrefl,decide_false,cond_false,List.take_length]
theorem ZaR.spec(a b:List Zc)(hp:ZaR.pre (a,b,())):ZaR.wp a b (fun r=>r=ZaR.fn (a,b,())):=by
 obtain⟨h1,h2⟩:=hp
 simp only at h1 h2
 simp only[ZaR.wp,List.nil_append]
 exact⟨⟨by simp;omega,by simp;omega⟩,⟨by omega,by omega⟩,trivial⟩
theorem Zb9{α:Type}{l:List α}{d x:α}(h:x∈l):∃ i,i < l.length∧l.getD i d=x:=by
 obtain⟨i,hi,rfl⟩:=List.mem_iff_getElem.1 h
 exact⟨i,hi,ZN hi⟩
theorem ZaY.spec(l:List (List Zc))(p:List Zc)(hl:l.length≤9223372036854775807):ZaY.wp l p (fun r=>r=ZaY.fn (l,p,())):=by
 have hfn:ZaY.fn (l,p,())=decide (p∈l):=rfl
 simp only[ZaY.wp,hfn,ZS.fn]
 refine Lp.iter l.length (fun i y=>y=(i:Int)∧∀ j,j < i→l.getD j []≠p) ⟨rfl,fun j hj=>absurd hj (by omega)⟩ ?_
 rintro i y hle ⟨rfl,hi⟩ R hR
 by_cases e:i < l.length
 ·simp only[decide_eq_true (show (i:Int) < (l.length:Int) by omega),Int.toNat_natCast,cond_true]
  refine⟨⟨by omega,by omega⟩,?_⟩
  by_cases h:l.getD i []=p
  ·rw[decide_eq_true h]
   exact (decide_eq_true (h▸Zi e)).symm
  ·rw[decide_eq_false h]
   refine⟨⟨by omega,by omega⟩,hR e _ ⟨rfl,fun j hj=>?_⟩⟩
   by_cases ej:j=i
   ·subst ej;exact h
   ·exact hi j (by omega)
 ·have:i=l.length:=by omega
  subst this
  simp only[Int.lt_irrefl,decide_false,cond_false]
  refine (decide_eq_false fun hm=>?_).symm
  obtain⟨j,hj,h⟩:=Zb9 (d:=[]) hm
  exact hi j hj h
theorem Zn6{out out':List (List Zc)}{p:List Zc}(h:Zco out p=some out'):out.length≤out'.length∧out'.length≤out.length+1:=by
 unfold Zco at h
 split at h
 ·cases h
 ·split at h
  ·cases h;omega
  ·cases h;simp
theorem ZlX:∀ {l out out':List (List Zc)},l.foldlM Zco out=some out'→out.length≤out'.length∧out'.length≤out.length+l.length
 | [],out,out',h=>by cases h;simp
 | p::l,out,out',h=>by
   simp only[List.foldlM_cons,Option.bind_eq_bind,Option.bind_eq_some_iff] at h
   obtain⟨s,h1,h2⟩:=h
   have:=Zn6 h1
   have:=ZlX h2
   simp only[List.length_cons];omega
theorem ZU.spec(l:List (List Zc))(hp:ZU.pre (l,())):ZU.wp l (fun r=>r=ZU.fn (l,())):=by
 obtain⟨hl,hd⟩:=hp
 simp only at hl hd
 have hfn:ZU.fn (l,())=(match l.foldlM Zco [] with | none=>([],3) | some out=>(out,0)):=rfl
 simp only[ZU.wp,hfn,Zab.fn,ZaY.fn]
 refine Lp.foldO l [] Zco [] (by omega) ?_ ?_
 ·intro i out R e e2 hf ht hR1 hR2
  have hol:=(ZlX ht).2
  simp only[List.length_nil,List.length_take] at hol
  simp only[decide_eq_true e2,Int.toNat_natCast,cond_true]
  refine⟨⟨by omega,by omega⟩,hd _ (Zi e),?_⟩
  simp only[Zco] at hR1 hR2
  by_cases h0:(Z9 (l.getD i [])).2.2=0
  ·rw[if_neg (fun h=>h h0)] at hR1
   simp only[h0,bne_self_eq_false,cond_false]
   refine⟨fun h=>⟨h,h,trivial⟩,fun h=>⟨h,trivial⟩,fun h=>h,?_⟩
   have hb:(!(Z9 (l.getD i [])).2.1&&!decide ((Z9 (l.getD i [])).1∈out))=!decide ((Z9 (l.getD i [])).2.1=true∨(Z9 (l.getD i [])).1∈out):=by
    cases (Z9 (l.getD i [])).2.1<;>simp
   rw[hb]
   by_cases h1:(Z9 (l.getD i [])).2.1=true∨(Z9 (l.getD i [])).1∈out
   ·rw[if_pos h1] at hR1
    rw[decide_eq_true h1]
    exact⟨hf,hR1 _ rfl⟩
   ·rw[if_neg h1] at hR1
    rw[decide_eq_false h1]
    exact⟨⟨by simp;omega,by simp;omega⟩,hf,hR1 _ rfl⟩
  ·simp only[bne_iff_ne.2 h0,cond_true]
   rw[hR2 (if_pos h0),((ZgL _).resolve_left h0).1]
 ·intro out R ht
  simp only[Int.lt_irrefl,decide_false,cond_false]
  rw[ht]
theorem ZlS:∀ (l out:List (List Zc)),out.length≤400→l.foldlM Z6 out=(l.foldlM Zco out).bind fun o=>if 400 < o.length then none else some o
 | [],out,h=>by
   show some out=if 400 < out.length then none else some out
   rw[if_neg (by omega)]
 | p::l,out,h=>by
   rw[List.foldlM_cons,List.foldlM_cons]
   by_cases h0:(Z9 p).2.2=0
   ·by_cases h1:(Z9 p).2.1=true∨(Z9 p).1∈out
    ·have e1:Z6 out p=some out:=(if_neg fun h=>h h0).trans (if_pos h1)
     have e2:Zco out p=some out:=(if_neg fun h=>h h0).trans (if_pos h1)
     rw[e1,e2]
     exact ZlS l out h
    ·have e2:Zco out p=some (out++[(Z9 p).1]):=(if_neg fun h=>h h0).trans (if_neg h1)
     by_cases h2:400 < out.length+1
     ·have e1:Z6 out p=none:=(if_neg fun h=>h h0).trans ((if_neg h1).trans (if_pos h2))
      rw[e1,e2]
      show none=(l.foldlM Zco (out++[(Z9 p).1])).bind _
      rcases Z8 (l.foldlM Zco (out++[(Z9 p).1])) with h3 | ⟨o,h3⟩
      ·rw[h3];rfl
      ·rw[h3]
       have:=(ZlX h3).1
       simp only[List.length_append,List.length_cons,List.length_nil] at this
       exact (if_pos (by omega)).symm
     ·have e1:Z6 out p=some (out++[(Z9 p).1]):=(if_neg fun h=>h h0).trans ((if_neg h1).trans (if_neg h2))
      rw[e1,e2]
      exact ZlS l _ (by simp;omega)
   ·have e1:Z6 out p=none:=if_pos h0
    have e2:Zco out p=none:=if_pos h0
    rw[e1,e2];rfl
theorem Zax.spec(n:Int)(l:List (List Zc))(hp:Zax.pre (n,l,())):Zax.wp n l (fun r=>r=Zax.fn (n,l,())):=by
 have hfn:Zax.fn (n,l,())=ZfJ n (l.foldlM Z6 []):=rfl
 simp only[Zax.wp,hfn,ZU.fn]
 refine⟨hp,fun h=>⟨h,trivial⟩,fun h=>⟨h,trivial⟩,fun h=>by rw[h];rfl,?_⟩
 rw[ZlS l [] (by simp)]
 rcases Z8 (l.foldlM Zco []) with h3 | ⟨o,h3⟩
 ·have hpf:Zgj l=([],3):=by unfold Zgj;rw[h3]
  simp only[hpf,h3];rfl
 ·have hpf:Zgj l=(o,0):=by unfold Zgj;rw[h3]
  simp only[hpf,h3]
  by_cases h:400 < o.length
  ·simp only[bne_self_eq_false,Bool.false_or,decide_eq_true (show (400:Int) < (o.length:Int) by omega),cond_true,Option.bind_some,if_pos h]
   rfl
  ·simp only[bne_self_eq_false,Bool.false_or,decide_eq_false (show ¬ (400:Int) < (o.length:Int) by omega),cond_false,Option.bind_some,if_neg h]
   rfl
theorem Zr.D{s:ZbZ}(h:Zr s=true){p:List Zc}(hp:p∈s.2):Zay p∧Zda p s.1.toNat:=⟨Zr.B h hp,fun c hc=>by
 obtain⟨h0,_,_,h4⟩:=Zr.b h
 have:=((h4 p hp).2 c hc).2
 omega⟩
theorem Zam.spec(x:ZbZ):Zam.wp x (fun r=>r=Zam.fn (x,())):=by
 have hfn:Zam.fn (x,())=Zaa x:=rfl
 simp only[Zam.wp,ZJ.fn,Zax.fn,hfn]
 cases hv:Zr x with
 | false=>simp[Zaa,hv]
 | true =>
   have:=(Zr.b hv).2.2.1
   refine⟨⟨by simp only;omega,fun p hp=>⟨Zr.B hv hp,_,(Zr.D hv hp).2⟩⟩,?_⟩
   simp[Zaa,hv]
theorem Zs7{p q:List Zc}{n:Nat}(hp:p.length≤96∧∀ c∈p,Zd c=true)(hq:q.length≤96∧∀ c∈q,Zd c=true)(h1:Zda p n)(h2:Zda q n):Zng (p++q) :=
 ⟨⟨by simp only[List.length_append];omega,fun c hc=>(List.mem_append.1 hc).elim (fun h=>Zd.condB (hp.2 c h)) (fun h=>Zd.condB (hq.2 c h))⟩,n,fun c hc=>(List.mem_append.1 hc).elim (h1 c) (h2 c)⟩
theorem Zi2{g:Nat}(hg:0 < g):∀ {l:List Int} {s:Int},(s=g∨s=-(g:Int))→(∀ n∈l,g ∣ n.natAbs)→∀ a:Nat,(l.map (·.tdiv s)).foldl (fun g n=>Nat.gcd g n.natAbs) a*g=l.foldl (fun g n=>Nat.gcd g n.natAbs) (a*g)
 | [],s,_,_,a=>rfl
 | n::l,s,hs,h,a=>by
   simp only[List.map_cons,List.foldl_cons]
   rw[Zi2 hg hs fun m hm=>h m (by simp[hm])]
   congr 1
   have h1:=h n (by simp)
   have h2:(n.tdiv s).natAbs=n.natAbs / g:=by
    rw[Int.natAbs_tdiv]
    rcases hs with rfl | rfl<;>(simp;rfl)
   rw[h2,← Nat.gcd_mul_right,Nat.div_mul_cancel h1]
theorem Zne{l:List Int}{s:Int}(hg:Zbi l≠0)(hs:s=Zbi l∨s=-(Zbi l:Int)):Zbi (l.map (·.tdiv s))=1:=by
 have h:=Zi2 (g:=Zbi l) (by omega) (l:=l) hs (ZgD (l:=l) (g:=0)).2 0
 rw[Nat.zero_mul] at h
 have h2:Zbi (l.map (·.tdiv s))*Zbi l=1*Zbi l:=by rw[Nat.one_mul];exact h
 exact Nat.eq_of_mul_eq_mul_right (by omega) h2
theorem ZhG{g:Nat}(hg:0 < g):∀ {l:List Int},(∀ n∈l,g ∣ n.natAbs)→Za7 (l.map (·.tdiv (g:Int)))=Za7 l∧(Za7 l=true→Za7 (l.map (·.tdiv (-(g:Int))))=false)
 | [],_=>⟨rfl,fun h=>by cases h⟩
 | n::l,h=>by
   obtain⟨ih1,ih2⟩:=ZhG hg (l:=l) fun m hm=>h m (by simp[hm])
   obtain⟨k,hk⟩:=h n (by simp)
   simp only[List.map_cons,Za7,Int.tdiv_neg]
   by_cases h0:n=0
   ·subst h0
    simp only[Int.zero_tdiv,if_true,Int.neg_zero]
    refine⟨ih1,fun hf=>?_⟩
    have:=ih2 hf
    simpa only [Int.tdiv_neg] using this
   ·have hk0:k≠0:=fun e=>by subst e;simp at hk;exact h0 hk
    have hq:n.tdiv g=k∧0 < n∨n.tdiv g=-(k:Int)∧n < 0:=by
     have e1:((g:Int)*k).tdiv g=k:=by rw[Int.mul_comm];exact Int.mul_tdiv_cancel _ (by omega)
     have e2:((g*k:Nat):Int)=(g:Int)*k:=Int.natCast_mul _ _
     rcases Int.lt_or_gt_of_ne h0 with h1 | h1
     ·refine .inr ⟨?_,h1⟩
      have:n=-((g:Int)*k):=by omega
      rw[this,Int.neg_tdiv,e1]
     ·refine .inl ⟨?_,h1⟩
      have:n=(g:Int)*k:=by omega
      rw[this,e1]
    have hq0:n.tdiv g≠0:=by omega
    have hq1:-n.tdiv g≠0:=by omega
    rw[if_neg h0,if_neg hq0,if_neg hq1]
    constructor
    ·exact decide_eq_decide.2 (by omega)
    ·intro h;simp only[decide_eq_true_eq] at h;exact decide_eq_false (by omega)
def Zmy(n:Nat)(c:Zc):Prop:=c.2.2.1.length=n∧(c.1≠2→Zbi c.2.2.1=1)∧(c.1=1→Za7 c.2.2.1=false)
theorem Zpy{c:Zc}(h0:(eqF c).2=0):Zmy c.2.2.1.length (eqF c).1∧(eqF c).1.1=1:=by
 have hs:∀ b,(Zc1 b).2≠0:=fun b=>by cases b<;>simp[Zc1]
 unfold eqF at h0 ⊢
 by_cases hg:Zbi c.2.2.1=0∨c.2.2.2.tmod (Zbi c.2.2.1)≠0
 ·rw[if_pos hg] at h0;exact absurd h0 (hs _)
 ·rw[if_neg hg]
  rw[not_or] at hg
  have hd:=(ZgD (l:=c.2.2.1) (g:=0)).2
  have he:Zbv c=(Zbi c.2.2.1:Int)∨Zbv c=-(Zbi c.2.2.1:Int):=by
   unfold Zbv;split<;>simp
  refine⟨⟨by simp,fun _=>Zne hg.1 he,fun _=>?_⟩,rfl⟩
  obtain⟨h1,h2⟩:=ZhG (g:=Zbi c.2.2.1) (by omega) hd
  show Za7 (c.2.2.1.map (·.tdiv (Zbv c)))=false
  unfold Zbv
  cases hf:Za7 c.2.2.1 with
  | true=>simp only[if_true];exact h2 hf
  | false=>simp only[Bool.false_eq_true,if_false];rw[h1,hf]
theorem Zjg{c:Zc}(h:condB c)(h0:(ZbF c).2=0):Zmy c.2.2.1.length (ZbF c).1∧(ZbF c).1.1=c.1:=by
 obtain⟨hk,_⟩:=h
 have hs:∀ b,(Zc1 b).2≠0:=fun b=>by cases b<;>simp[Zc1]
 rcases hk with hk | hk | ⟨hk,hm1,hm2⟩
 ·have hr:ZbF c=geF c:=by simp[ZbF,hk]
  rw[hr] at h0 ⊢
  unfold geF at h0 ⊢
  by_cases hg:Zbi c.2.2.1=0
  ·rw[if_pos hg] at h0;exact absurd h0 (hs _)
  ·rw[if_neg hg,hk]
   exact⟨⟨by simp,fun _=>Zne hg (.inl rfl),fun h=>by cases h⟩,rfl⟩
 ·have hr:ZbF c=eqF c:=by simp[ZbF,hk]
  rw[hr] at h0 ⊢
  rw[hk]
  exact Zpy h0
 ·have hr:ZbF c=Zk6 c:=by simp[ZbF,hk]
  rw[hr] at h0 ⊢
  unfold Zk6 at h0 ⊢
  split at h0
  ·exact absurd h0 (hs _)
  split at h0
  ·exact absurd h0 (hs _)
  rename_i ha hb
  rw[if_neg ha,if_neg hb,hk]
  exact⟨⟨by simp,fun h=>absurd rfl h,fun h=>by cases h⟩,rfl⟩
theorem tmod_one(n:Int):n.tmod 1=0:=by rw[Int.tmod_eq_zero_of_dvd];exact Int.one_dvd _
theorem Zpe{n:Nat}{c:Zc}(h:Zmy n c)(h0:c.1=0):(ZbF (1,0,c.2.2)).2=0∧Zmy n (ZbF (1,0,c.2.2)).1∧(ZbF (1,0,c.2.2)).1.1=1:=by
 have hg:=h.2.1 (by omega)
 have hr:ZbF (1,0,c.2.2)=eqF (1,0,c.2.2):=rfl
 have hz:(eqF (1,0,c.2.2)).2=0:=by
  unfold eqF
  have:¬ (Zbi c.2.2.1=0∨c.2.2.2.tmod (Zbi c.2.2.1)≠0):=by
   rw[hg]
   rintro (h | h)
   ·omega
   ·exact h (tmod_one _)
  show (if Zbi c.2.2.1=0∨c.2.2.2.tmod (Zbi c.2.2.1)≠0 then _ else _:Zc×Int).2=0
  rw[if_neg this]
 rw[hr]
 have:=Zpy hz
 rw[show ((1,0,c.2.2):Zc).2.2.1.length=n from h.1] at this
 exact⟨hz,this⟩
theorem ZmR{p:List Zc}{n:Nat}(h:Zay p)(hd:Zda p n):∀ c∈Zb3 p,Zmy n c:=by
 intro c hc
 simp only[Zb3,List.mem_map,List.mem_filter] at hc
 obtain⟨r,⟨⟨d,hd2,rfl⟩,hr⟩,rfl⟩:=hc
 have:=(Zjg (h.2 d hd2) (by simpa using hr)).1
 rwa [hd d hd2] at this
theorem Zp8{p:List Zc}{n:Nat}(h:Zay p)(hd:Zda p n):∀ c∈(Z9 p).1,Zmy n c :=
 Zs2 (P:=Zmy n) (fun d c hd hc=>hd) (fun c h0 hc=>(Zpe hc h0).2.1) h (ZmR h hd)
theorem Zk0{p:List Zc}{n:Nat}(h:Zay p)(hd:Zda p n):Zda (Z9 p).1 n:=fun c hc=>(Zp8 h hd c hc).1
theorem Zmz{out out':List (List Zc)}{p:List Zc}{n:Nat}(h:Z6 out p=some out')(hl:∀ q∈out,Zda q n)(hp:Zay p)(hd:Zda p n):∀ q∈out',Zda q n:=by
 unfold Z6 at h
 split at h
 ·cases h
 ·split at h
  ·cases h;exact hl
  ·split at h
   ·cases h
   ·cases h
    intro q hq
    rcases List.mem_append.1 hq with hq | hq
    ·exact hl q hq
    ·simp only[List.mem_singleton] at hq;subst hq
     exact Zk0 hp hd
theorem ZgT{n:Nat}:∀ {l:List (List Zc)} {out out':List (List Zc)},l.foldlM Z6 out=some out'→(∀ q∈out,Zda q n)→(∀ p∈l,Zay p∧Zda p n)→∀ q∈out',Zda q n
 | [],out,out',h,hl,_=>by cases h;exact hl
 | p::l,out,out',h,hl,hb=>by
   simp only[List.foldlM_cons,Option.bind_eq_bind,Option.bind_eq_some_iff] at h
   obtain⟨s,h1,h2⟩:=h
   have h3:=hb p (by simp)
   exact ZgT h2 (Zmz h1 hl h3.1 h3.2) fun q hq=>hb q (by simp[hq])
theorem Zhw{x:ZbZ}(hx:Zr x=true)(h:(Zaa x).2=0):∀ q∈(Zaa x).1.2,Zda q x.1.toNat:=by
 unfold Zaa at h ⊢
 rw[if_neg (by rw[hx];simp)] at h ⊢
 unfold ZfJ at h ⊢
 rcases Z8 (ZdX x.2) with ho | ⟨out,ho⟩
 ·rw[ho] at h;cases h
 ·rw[ho]
  exact ZgT ho (by simp) fun p hp=>Zr.D hx hp
theorem Zm6{c o:Zc}(h:o∈ZaW c):o.2.2.1.length=c.2.2.1.length:=by
 unfold ZaW at h
 split at h
 ·simp only[List.mem_singleton] at h;subst h;simp[ZqL]
 ·split at h
  ·simp only[List.mem_cons,List.not_mem_nil,or_false] at h
   rcases h with rfl | rfl
   ·rfl
   ·simp[ZqL]
  ·obtain⟨r,_,rfl⟩:=List.mem_map.1 h
   rfl
theorem ZmY{n:Nat}:∀ {l out out':List Zc},l.foldlM (Zcy n) out=some out'→Zda out n→(∀ c∈l,condB c∧c.2.2.1.length=n)→Zda out' n
 | [],out,out',h,h1,_=>by cases h;exact h1
 | c::l,out,out',h,h1,hb=>by
   simp only[List.foldlM_cons,Option.bind_eq_bind,Option.bind_eq_some_iff] at h
   obtain⟨s,h2,h3⟩:=h
   refine ZmY h3 ?_ fun d hd=>hb d (by simp[hd])
   have key:∀ x:Zc,x.2.2.1.length=n→Zda (out++[x]) n:=fun x hx d hd=>by
    rcases List.mem_append.1 hd with hd | hd
    ·exact h1 d hd
    ·simp only[List.mem_singleton] at hd;subst hd;exact hx
   obtain⟨hcb,hcl⟩:=hb c (by simp)
   unfold Zcy at h2
   split at h2
   ·cases h2
   ·rename_i he
    split at h2
    ·cases h2;exact key _ (by simp)
    ·split at h2
     ·cases h2;exact h1
     ·cases h2
      refine key _ ?_
      have he':(Zdo c).2.2=0:=by omega
      have hs:(Zdo c).2.1=0:=by omega
      unfold Zdo at he' hs ⊢
      split at he'
      ·cases he'
      ·rename_i h5
       rw[if_neg h5] at hs ⊢
       have:=(Zjg hcb hs).1.1
       exact this.trans hcl
theorem ZqQ{c:Zc}(hv:Zd c=true):Zda (Zgo c).1 c.2.2.1.length:=by
 unfold Zgo
 rw[if_neg (by rw[hv];simp)]
 rcases Z8 ((ZaW c).foldlM (Zcy c.2.2.1.length) []) with h | ⟨out,h⟩
 ·rw[h];intro d hd;simp at hd
 ·rw[h]
  simp only
  split
  ·intro d hd;simp at hd
  ·exact ZmY h (by intro d hd;simp at hd) fun o ho=>⟨Zjm hv o ho,Zm6 ho⟩
theorem Zw.spec(a:Int)(l:Lin)(b:Int)(m:Lin)(hp:Zw.pre (a,l,b,m,())):Zw.wp a l b m (fun r=>r=Zw.fn (a,l,b,m,())):=by
 obtain⟨ha,⟨hl1,hl2,hl3⟩,hb,⟨hm1,hm2,hm3⟩,he⟩:=hp
 simp only at ha hl1 hl2 hl3 hb hm1 hm2 hm3 he
 have key:∀ x y:Int,(-1048576≤x∧x≤1048576)→(-4294967296≤y∧y≤4294967296)→-4503599627370496≤x*y∧x*y≤4503599627370496:=fun x y hx hy =>
  ZdA (n:=1048576) (m:=4294967296) (by omega) (by omega) hx.1 hx.2 hy.1 hy.2
 have k1:=key a l.2 ha hl3
 have k2:=key b m.2 hb hm3
 have hfn:Zw.fn (a,l,b,m,())=ZcF a l b m:=rfl
 simp only[Zw.wp,Int.toNat_natCast,hfn]
 unfold ZcF
 refine⟨⟨by omega,by omega,by omega,by omega⟩,⟨by omega,by omega⟩,⟨by omega,by omega⟩,⟨by omega,by omega⟩,?_⟩
 have hrl:(List.range l.1.length).length=l.1.length:=by simp
 have hF:=Lp.fill (body:=fun (y5:Int×List Int) R5=>let v2:=List.getD l.1 (Int.toNat y5.1) (0:Int);let v3:=List.getD m.1 (Int.toNat y5.1) (0:Int);cond (decide (y5.1 < ((List.length l.1:Nat):Int))) (((0:Int)≤y5.1∧y5.1 < ((List.length l.1:Nat):Int))∧(Zm IntKind.i64 (a*v2)∧(((0:Int)≤y5.1∧y5.1 < ((List.length m.1:Nat):Int))∧(Zm IntKind.i64 (b*v3)∧(Zm IntKind.i64 ((a*v2)+(b*v3))∧(((0:Int)≤y5.1∧y5.1 < ((List.length y5.2:Nat):Int))∧(Int.toNat y5.1 < List.length y5.2∧(Zm IntKind.i64 (y5.1+(1:Int))∧R5 ((y5.1+(1:Int)),(List.set y5.2 (Int.toNat y5.1) ((a*v2)+(b*v3)))))))))))) (((y5.2,((a*l.2)+(b*m.2))):Lin)=((List.range l.1.length).map fun i=>a*l.1.getD i 0+b*m.1.getD i 0,a*l.2+b*m.2))) (List.range l.1.length) 0 0 (fun i=>a*l.1.getD i 0+b*m.1.getD i 0) (by omega) (fun i out R hi hi' hf ho hR=>?_) (fun R=>?_)
 ·rw[hrl] at hF;exact hF
 ·rw[hrl] at hi hi' ho
  rw[ZhA hi] at hR
  have k3:=key a _ ha (hl2 _ (Zi (d:=0) hi))
  have k4:=key b _ hb (hm2 _ (Zi (d:=0) (show i < m.1.length by omega)))
  simp only[decide_eq_true hi',Int.toNat_natCast,cond_true]
  exact⟨⟨by omega,by omega⟩,⟨by omega,by omega⟩,⟨by omega,by omega⟩,⟨by omega,by omega⟩,⟨by omega,by omega⟩,⟨by omega,by omega⟩,by omega,hf,hR⟩
 ·rw[hrl]
  simp only[Int.lt_irrefl,decide_false,cond_false]
theorem Zm8(a:Int)(l:Lin)(b k:Int):ZcF a l b (List.replicate l.1.length 0,k)=(l.1.map fun n=>a*n,a*l.2+b*k):=by
 unfold ZcF
 congr 1
 apply List.ext_getElem (by simp)
 intro i h1 h2
 simp only[List.length_map,List.length_range] at h1
 simp only[List.getElem_map,List.getElem_range]
 rw[ZN h1,ZN (by simpa using h1)]
 simp
theorem Zod.of{σ:Type}{K:σ→Prop}{body:(σ→Prop)→Prop}{P:σ→Prop}(hK:∀ y,P y→K y)(hb:∀ R:σ→Prop,(∀ y,P y→R y)→body R):Zod K body:=hb K hK
theorem ZaL.spec(c:Zc):ZaL.wp c (fun r=>r=ZaL.fn (c,())):=by
 have hfn:ZaL.fn (c,())=Zgo c:=rfl
 simp only[ZaL.wp,Zaq.fn,hfn,Int.toNat_natCast,Zw.fn,Zm8,Zt.fn]
 cases hv:Zd c with
 | false=>simp[Zgo,hv]
 | true =>
   simp only[Bool.not_true,cond_false]
   have hl:=Z4.b (Zd.lin hv)
   have hol:=Ziv hv
   have hob:=Zjm hv
   have hpre:∀ a b:Int,(-1048576≤a∧a≤1048576)→(-1048576≤b∧b≤1048576)→Zw.pre (a,c.2.2,b,(List.replicate c.2.2.1.length 0,1),()):=fun a b ha hb =>
    ⟨ha,⟨by show c.2.2.1.length≤_;omega,fun n hn=>by have:=hl.2.1 n hn;omega,by show -4294967296≤c.2.2.2;omega,by show c.2.2.2≤4294967296;omega⟩,hb,⟨by show (List.replicate c.2.2.1.length (0:Int)).length≤_;simp;omega,fun n hn=>by rw[(List.mem_replicate.1 hn).2];omega,by show (-4294967296:Int)≤1;omega,by show (1:Int)≤4294967296;omega⟩,by simp⟩
   have hneg:Zgo c=match (ZaW c).foldlM (Zcy c.2.2.1.length) [] with
    | none=>([],3)
    | some out=>if 400 < out.length then ([],3) else (out,0):=by
    unfold Zgo;exact if_neg (by rw[hv];simp)
   refine⟨⟨by omega,by omega,by omega,by omega⟩,Zod.of (P:=fun y=>y.1=ZaW c) ?_ ?_⟩
   ·rintro⟨L,b1,b2,k⟩ hL
    simp only at hL
    subst hL
    refine Lp.foldO (ZaW c) Za (Zcy c.2.2.1.length) [] (by omega) (fun i t R hi hi' hf ht hR hn=>?_) (fun t R ht=>?_)
    ·have htl:t.length≤512:=by
      have:=Zfk (fun _ _ _ h=>ZjP h) _ _ _ ht
      simp only[List.length_take,List.length_nil] at this;omega
     have hmem:=Zi (d:=Za) hi
     simp only[decide_eq_true hi',Int.toNat_natCast,cond_true]
     refine⟨⟨by omega,hi'⟩,hob _ hmem,?_⟩
     have hst:=Zkm ((ZaW c).getD i Za)
     have hmk:Zdo ((ZaW c).getD i Za)=if (ZbF ((ZaW c).getD i Za)).2=0∧Zd (ZbF ((ZaW c).getD i Za)).1=false then (Za,0,3) else ((ZbF ((ZaW c).getD i Za)).1,(ZbF ((ZaW c).getD i Za)).2,0):=rfl
     have hns:Zcy c.2.2.1.length t ((ZaW c).getD i Za)=if (Zdo ((ZaW c).getD i Za)).2.2≠0 then none else if 0 < (Zdo ((ZaW c).getD i Za)).2.1 then some (t++[(0,0,List.replicate c.2.2.1.length 0,0)]) else if (Zdo ((ZaW c).getD i Za)).2.1 < 0 then some t else some (t++[(Zdo ((ZaW c).getD i Za)).1]):=rfl
     generalize hr:ZbF ((ZaW c).getD i Za)=r at *
     obtain⟨rc,rs⟩:=r
     simp only at hst hns hmk
     rcases hst with rfl | rfl | rfl
     ·simp only[beq_self_eq_true,show ((0:Int) == 1)=false from rfl,cond_false,Bool.true_and]
      refine⟨fun h=>⟨h,trivial⟩,fun h=>⟨h,trivial⟩,fun h=>h,?_⟩
      cases hvr:Zd rc with
      | false =>
        rw[hmk.trans (if_pos ⟨rfl,hvr⟩)] at hns
        simp only[Bool.not_false,cond_true]
        rw[hneg,hn (by rw[hns];rfl)]
      | true =>
        rw[hmk.trans (if_neg (by rw[hvr];simp))] at hns
        simp only[Bool.not_true,cond_false,cond_true]
        exact⟨⟨by simp;omega,by simp;omega⟩,hf,hR _ (by rw[hns];rfl)⟩
     ·rw[hmk.trans (if_neg (by simp))] at hns
      simp only[beq_self_eq_true,cond_true]
      exact⟨⟨by simp;omega,by simp;omega⟩,hf,hR _ (by rw[hns];rfl)⟩
     ·rw[hmk.trans (if_neg (by simp))] at hns
      simp only[show ((-1:Int) == 1)=false from rfl,show ((-1:Int) == 0)=false from rfl,cond_false,Bool.false_and]
      exact⟨fun h=>(by cases h),fun h=>(by cases h),fun h=>(by cases h),hf,hR _ (by rw[hns];rfl)⟩
    ·simp only[Int.lt_irrefl,decide_false,cond_false]
     rw[hneg,ht]
     simp only
     by_cases h4:400 < t.length
     ·rw[if_pos h4,decide_eq_true (show (400:Int) < (t.length:Int) by omega)];rfl
     ·rw[if_neg h4,decide_eq_false (show ¬ (400:Int) < (t.length:Int) by omega)];rfl
   ·intro R hR
    have hk:=Zd.kind hv
    have h1:(c.2.2.1.map fun n=>(-1:Int)*n)=c.2.2.1.map fun n=>-n:=List.map_congr_left fun n _=>by omega
    have h2:(c.2.2.1.map fun n=>(1:Int)*n)=c.2.2.1:=ZhB _
    by_cases k0:c.1=0
    ·simp only[k0,beq_self_eq_true,cond_true]
     refine⟨hpre _ _ (by omega) (by omega),hR _ ?_⟩
     simp only[ZaW,k0,if_true,ZqL,h1]
     rw[show (-1:Int)*c.2.2.2+-1*1=-1 - c.2.2.2 by omega]
    ·by_cases k1:c.1=1
     ·simp only[k1,show ((1:Int) == 0)=false from rfl,beq_self_eq_true,cond_true,cond_false]
      refine⟨hpre _ _ (by omega) (by omega),hpre _ _ (by omega) (by omega),hR _ ?_⟩
      simp only[ZaW,k1,show (1:Int)≠0 by decide,if_true,if_false,ZqL,h1,h2]
      rw[show (-1:Int)*c.2.2.2+-1*1=-1 - c.2.2.2 by omega,show (1:Int)*c.2.2.2+-1*1=c.2.2.2 - 1 by omega]
     ·simp only[beq_eq_false_iff_ne.2 k0,beq_eq_false_iff_ne.2 k1,cond_false]
      have ho:ZaW c=(List.range (c.2.1 - 1).toNat).map fun (r:Nat)=>((2,c.2.1,c.2.2.1,c.2.2.2 - ((r:Int)+1)):Zc):=by
       unfold ZaW;rw[if_neg k0,if_neg k1]
      have hm:1≤c.2.1∧c.2.1≤512:=by omega
      refine Lp.iter (c.2.1 - 1).toNat (fun i y=>y=((i:Int)+1,(List.range i).map fun (r:Nat)=>((2,c.2.1,c.2.2.1,c.2.2.2 - ((r:Int)+1)):Zc))) rfl ?_
      rintro i y hle rfl R' hR'
      by_cases e:i < (c.2.1 - 1).toNat
      ·simp only[decide_eq_true (show (i:Int)+1 < c.2.1 by omega),cond_true]
       refine⟨⟨by omega,by omega⟩,hpre _ _ (by omega) (by omega),⟨by simp;omega,by simp;omega⟩,⟨by omega,by omega⟩,hR' e _ ?_⟩
       simp only[h2]
       rw[List.range_succ,List.map_append,show (1:Int)*c.2.2.2+-((i:Int)+1)*1=c.2.2.2 - ((i:Int)+1) by omega]
       rfl
      ·simp only[decide_eq_false (show ¬ (i:Int)+1 < c.2.1 by omega),cond_false]
       refine hR _ ?_
       rw[ho,show i=(c.2.1 - 1).toNat by omega]
abbrev ZpX(b:List Zc)(acc:List (List Zc))(a:List Zc):Option (List (List Zc)):=if (Zf6 a b).2≠0 then none else some (acc++(Zf6 a b).1)
theorem Zom(a b:List (List Zc)):ZdX (a++b)=(ZdX a).bind fun out=>b.foldlM Z6 out:=by
 unfold ZdX
 rw[List.foldlM_append];rfl
theorem Zpg(b:List Zc):∀ (cur acc:List (List Zc)),(cur.foldlM (ZpX b) acc).bind ZdX=(ZdX acc).bind fun out=>cur.foldlM (ZhF b) out
 | [],acc=>by
   show ZdX acc=(ZdX acc).bind some
   cases ZdX acc<;>rfl
 | a::cur,acc=>by
   simp only[List.foldlM_cons]
   by_cases h:(Zf6 a b).2=0
   ·have e1:ZpX b acc a=some (acc++(Zf6 a b).1):=if_neg fun h2=>h2 h
    have e2:∀ out,ZhF b out a=(Zf6 a b).1.foldlM Z6 out:=fun out=>if_neg fun h2=>h2 h
    rw[e1]
    show (cur.foldlM (ZpX b) (acc++(Zf6 a b).1)).bind ZdX=_
    rw[Zpg b cur,Zom]
    simp only[e2]
    cases ZdX acc<;>rfl
   ·have e1:ZpX b acc a=none:=if_pos h
    have e2:∀ out,ZhF b out a=none:=fun out=>if_pos h
    rw[e1]
    simp only[e2]
    cases ZdX acc<;>rfl
theorem ZmV(cur:List (List Zc))(b:List Zc):Zd1 cur b=(cur.foldlM (ZpX b) []).bind ZdX:=(Zpg b cur []).symm
theorem Zsc{a b:List Zc}{n:Nat}(ha:Zda a n)(hv:Zcb b)(hb:Zda b n):∀ p∈(Zf6 a b).1,Zda p n:=by
 unfold Zf6
 split
 ·simp
 ·split
  ·intro p hp;simp only[List.mem_singleton] at hp;subst hp;exact ha
  ·have key:∀ (l:List Nat) (out out':List (List Zc)),(∀ i∈l,i < b.length)→l.foldlM (Zcp a b) out=some out'→(∀ p∈out,Zda p n)→∀ p∈out',Zda p n:=by
    intro l
    induction l with
    | nil=>intro out out' _ h h3;cases h;exact h3
    | cons i l ih =>
      intro out out' hl h h3
      simp only[List.foldlM_cons,Option.bind_eq_bind,Option.bind_eq_some_iff] at h
      obtain⟨s,h1,h2⟩:=h
      refine ih s out' (fun j hj=>hl j (by simp[hj])) h2 ?_
      have hm:=Zi (d:=Za) (hl i (by simp))
      have hn:=ZqQ (hv.2 _ hm)
      unfold Zcp at h1
      split at h1
      ·cases h1
      ·cases h1
       intro p hp
       rcases List.mem_append.1 hp with hp | hp
       ·exact h3 p hp
       ·obtain⟨o,ho,rfl⟩:=List.mem_map.1 hp
        intro c hc
        rcases List.mem_append.1 hc with hc | hc
        ·exact ha c hc
        ·rcases List.mem_append.1 hc with hc | hc
         ·exact hb c (List.mem_of_mem_take hc)
         ·simp only[List.mem_singleton] at hc;subst hc
          rw[hn c ho,hb _ hm]
   rcases Z8 ((List.range b.length).foldlM (Zcp a b) []) with h | ⟨out,h⟩
   ·rw[h];simp
   ·rw[h]
    exact key _ _ _ (fun i hi=>List.mem_range.1 hi) h (by simp)
theorem Zw2{b:List Zc}(hb:Zcb b){n:Nat}(hbd:Zda b n):∀ {l acc acc':List (List Zc)},l.foldlM (ZpX b) acc=some acc'→(∀ p∈acc,Zay p∧Zda p n)→(∀ p∈l,Zcb p∧Zda p n)→acc'.length≤acc.length+4194304*l.length∧∀ p∈acc',Zay p∧Zda p n
 | [],acc,acc',h,h1,_=>by cases h;exact⟨by simp,h1⟩
 | a::l,acc,acc',h,h1,hv=>by
   simp only[List.foldlM_cons,Option.bind_eq_bind,Option.bind_eq_some_iff] at h
   obtain⟨s,h2,h3⟩:=h
   obtain⟨hva,hda⟩:=hv a (by simp)
   obtain⟨hcl,hcB⟩:=Zry hva hb
   unfold ZpX at h2
   split at h2
   ·cases h2
   ·cases h2
    obtain⟨h4,h5⟩:=Zw2 hb hbd h3 (fun p hp=>(List.mem_append.1 hp).elim (h1 p) fun hp=>⟨hcB p hp,Zsc hda hb hbd p hp⟩) fun p hp=>hv p (by simp[hp])
    refine⟨?_,h5⟩
    simp only[List.length_append,List.length_cons] at *
    omega
theorem Zsn{a b:List Zc}(h0:(Z9 (a++b)).2.2=0)(h1:(Z9 (a++b)).2.1=true):Zf6 a b=([a],0):=by simp[Zf6,h0,h1]
theorem Zsd{a b:List Zc}{acc r:List (List Zc)}(h:Zf6 a b=(r,0)):ZpX b acc a=some (acc++r):=by simp[ZpX,h]
theorem Zba.spec(x y:ZbZ):Zba.wp x y (fun r=>r=Zba.fn (x,y,())):=by
 have hfn:Zba.fn (x,y,())=ZcE x y:=rfl
 simp only[Zba.wp,Zbp.fn,hfn,Zam.fn,Zab.fn,ZaR.fn,ZaL.fn,Zax.fn]
 by_cases he:Zd7 x y=0
 ·obtain⟨hvx,hvy,hxy⟩:=Zm9 he
  have hM:ZcE x y=if (Zaa x).2≠0∨(Zaa y).2≠0 then ((0,[]),3) else ZfJ x.1 ((Zaa y).1.2.foldlM Zd1 (Zaa x).1.2):=by
   unfold ZcE;exact if_neg (fun h=>h he)
  simp only[he,bne_self_eq_false,cond_false]
  refine⟨fun h=>⟨h,trivial⟩,fun h=>by rw[h];rfl,?_⟩
  by_cases hx:(Zaa x).2=0
  ·by_cases hy:(Zaa y).2=0
   ·simp only[hx,hy,bne_self_eq_false,Bool.or_false,cond_false,ne_eq,not_true_eq_false,or_self,if_false] at hM ⊢
    obtain⟨pX,eX⟩:=Zg0 hx
    obtain⟨pY,eY⟩:=Zg0 hy
    have dX:=Zhw hvx hx
    have dY:=Zhw hvy hy
    rw[← hxy] at dY
    generalize (Zaa x).1.2=X at *
    generalize (Zaa y).1.2=Y at *
    generalize x.1.toNat=n at *
    have hYl:=pY.1
    refine Lp.iter Y.length (fun i z=>∃ cur,z=((i:Int),cur)∧(Y.take i).foldlM Zd1 X=some cur∧∀ p∈cur,Zda p n) ⟨X,rfl,rfl,dX⟩ ?_
    rintro i z hle ⟨cur,rfl,ht,hdc⟩ R hR
    have pC:=ZnO ht pX fun p hp=>pY.v (List.mem_of_mem_take hp)
    by_cases e:i < Y.length
    ·simp only[decide_eq_true (show (i:Int) < (Y.length:Int) by omega),Int.toNat_natCast,cond_true]
     refine⟨⟨by omega,by omega⟩,?_⟩
     have hvb:=pY.v (Zi (d:=[]) e)
     have hdb:=dY _ (Zi (d:=[]) e)
     have hsn:=ZbW (d:=[]) ht e
     have hnone:=Zcx (d:=[]) ht e
     have hT:Zd1 cur (Y.getD i [])=none→ZcE x y=((0,[]),3):=fun h=>by rw[hM,hnone h];rfl
     rw[ZmV] at hsn hT
     have hCl:=pC.1
     have hbl:=(pY.2 _ (Zi (d:=[]) e)).1
     refine Lp.iter cur.length (fun j z=>∃ acc,z=((j:Int),acc)∧(cur.take j).foldlM (ZpX (Y.getD i [])) []=some acc) ⟨[],rfl,rfl⟩ ?_
     rintro j z hjle ⟨acc,rfl,ht2⟩ R2 hR2
     obtain⟨hal,hab⟩:=Zw2 hvb hdb ht2 (by simp) fun p hp=>⟨pC.v (List.mem_of_mem_take hp),hdc p (List.mem_of_mem_take hp)⟩
     simp only[List.length_nil,List.length_take] at hal
     by_cases e2:j < cur.length
     ·simp only[decide_eq_true (show (j:Int) < (cur.length:Int) by omega),Int.toNat_natCast,cond_true]
      have hva:=pC.v (Zi (d:=[]) e2)
      have hda:=hdc _ (Zi (d:=[]) e2)
      have hal2:=(pC.2 _ (Zi (d:=[]) e2)).1
      have hsn2:=ZbW (d:=[]) ht2 e2
      have hnone2:ZpX (Y.getD i []) acc (cur.getD j [])=none→ZcE x y=((0,[]),3):=fun h=>hT (by rw[Zcx (d:=[]) ht2 e2 h];rfl)
      have hR2':∀ acc',ZpX (Y.getD i []) acc (cur.getD j [])=some acc'→R2 ((j:Int)+1,acc'):=fun acc' h=>hR2 e2 _ ⟨acc',rfl,hsn2.trans h⟩
      refine⟨⟨by omega,by omega⟩,⟨by show (cur.getD j []).length≤_;omega,by show (Y.getD i []).length≤_;omega⟩,Zs7 (pC.2 _ (Zi (d:=[]) e2)) (pY.2 _ (Zi (d:=[]) e)) hda hdb,?_⟩
      clear hsn2 hR2 hsn hT hR
      by_cases h0:(Z9 ((cur.getD j [])++(Y.getD i []))).2.2=0
      ·simp only[h0,bne_self_eq_false,cond_false]
       by_cases h1:(Z9 ((cur.getD j [])++(Y.getD i []))).2.1=true
       ·simp only[h1,cond_true]
        have hcf:Zf6 (cur.getD j []) (Y.getD i [])=([(cur.getD j [])],0):=Zsn h0 h1
        refine⟨⟨by simp;omega,by simp;omega⟩,⟨by omega,by omega⟩,hR2' _ (Zsd hcf)⟩
       ·rw[Bool.not_eq_true] at h1
        simp only[h1,cond_false]
        have hcf:Zf6 (cur.getD j []) (Y.getD i [])=match (List.range (Y.getD i []).length).foldlM (Zcp (cur.getD j []) (Y.getD i [])) [] with
         | none=>([],3)
         | some out=>(out,0):=by
         unfold Zf6
         exact (if_neg (fun h=>h h0)).trans (if_neg (by rw[h1];simp))
        have hrl:(List.range (Y.getD i []).length).length=(Y.getD i []).length:=by simp
        refine Lp.iter (Y.getD i []).length (fun k z=>∃ out,z=((k:Int),acc++out)∧((List.range (Y.getD i []).length).take k).foldlM (Zcp (cur.getD j []) (Y.getD i [])) []=some out) ⟨[],by simp,rfl⟩ ?_
        rintro k z hkle ⟨out,rfl,ht3⟩ R3 hR3
        have hol:=Zic hvb (fun m hm=>by have:=List.mem_of_mem_take hm;simpa using this) ht3
        simp only[List.length_nil,List.length_take,hrl] at hol
        by_cases e3:k < (Y.getD i []).length
        ·have hsn3:=ZbW (d:=0) ht3 (by rw[hrl];exact e3)
         have hnone3:=Zcx (d:=0) ht3 (by rw[hrl];exact e3)
         rw[ZhA e3] at hsn3 hnone3
         simp only[decide_eq_true (show (k:Int) < ((Y.getD i []).length:Int) by omega),Int.toNat_natCast,cond_true]
         have hng:=Zlh (hvb.2 _ (Zi (d:=Za) e3))
         refine⟨⟨by omega,by omega⟩,?_⟩
         by_cases hn:(Zgo ((Y.getD i []).getD k Za)).2=0
         ·simp only[hn,bne_self_eq_false,cond_false]
          have hcs:Zcp (cur.getD j []) (Y.getD i []) out k=some (out++(Zgo ((Y.getD i []).getD k Za)).1.map fun o=>(cur.getD j [])++((Y.getD i []).take k++[o])):=if_neg fun h=>h hn
          have h4:=hng.2.1
          refine Lp.iter (Zgo ((Y.getD i []).getD k Za)).1.length (fun m y=>y=((m:Int),(acc++out)++((Zgo ((Y.getD i []).getD k Za)).1.take m).map fun o=>(cur.getD j [])++((Y.getD i []).take k++[o]))) (by simp) ?_
          rintro m y hml rfl R' hR'
          by_cases e4:m < (Zgo ((Y.getD i []).getD k Za)).1.length
          ·simp only[decide_eq_true (show (m:Int) < ((Zgo ((Y.getD i []).getD k Za)).1.length:Int) by omega),Int.toNat_natCast,cond_true]
           refine⟨⟨by omega,by omega⟩,⟨by omega,by omega⟩,⟨by show (cur.getD j []).length≤_;omega,by show ((Y.getD i []).take k).length≤_;simp only[List.length_append,List.length_take];omega⟩,⟨by show ((cur.getD j [])++(Y.getD i []).take k).length≤_;simp only[List.length_append,List.length_take];omega,by simp⟩,⟨?_,?_⟩,⟨by omega,by omega⟩,hR' e4 _ ?_⟩
           ·simp only[List.length_append,List.length_map,List.length_take,List.length_cons,List.length_nil];omega
           ·simp only[List.length_append,List.length_map,List.length_take,List.length_cons,List.length_nil];omega
           ·rw[Zy Za e4,List.map_append,List.append_assoc (cur.getD j [])]
            exact congrArg (Prod.mk ((m:Int)+1)) (List.append_assoc _ _ _)
          ·have:m=(Zgo ((Y.getD i []).getD k Za)).1.length:=by omega
           subst this
           simp only[Int.lt_irrefl,decide_false,cond_false,List.take_length]
           refine⟨⟨by omega,by omega⟩,hR3 e3 _ ⟨_,?_,hsn3.trans hcs⟩⟩
           rw[List.append_assoc];rfl
         ·simp only[bne_iff_ne.2 hn,cond_true]
          have:ZpX (Y.getD i []) acc (cur.getD j [])=none:=by
           refine if_pos ?_
           rw[hcf,hnone3 (if_pos hn)]
           decide
          rw[hnone2 this,(hng.1.resolve_left hn)]
        ·have:k=(Y.getD i []).length:=by omega
         subst this
         simp only[Int.lt_irrefl,decide_false,cond_false]
         rw[List.take_of_length_le (by rw[hrl];exact Nat.le_refl _)] at ht3
         rw[ht3] at hcf
         exact⟨⟨by omega,by omega⟩,hR2' _ (Zsd hcf)⟩
      ·simp only[bne_iff_ne.2 h0,cond_true]
       have hcf:Zf6 (cur.getD j []) (Y.getD i [])=([],3):=if_pos h0
       rw[hnone2 (if_pos (by rw[hcf];decide)),((ZgL _).resolve_left h0).1]
     ·have:j=cur.length:=by omega
      subst this
      simp only[Int.lt_irrefl,decide_false,cond_false]
      rw[List.take_length] at ht2
      rw[ht2,Option.bind_some] at hsn hT
      refine⟨⟨by simp only;omega,fun p hp=>⟨(hab p hp).1,n,(hab p hp).2⟩⟩,?_⟩
      rcases Z8 (ZdX acc) with h5 | ⟨out,h5⟩
      ·rw[h5]
       rw[hT h5];rfl
      ·rw[h5]
       refine⟨⟨by omega,by omega⟩,hR e _ ⟨out,rfl,hsn.trans h5,ZgT h5 (by simp) hab⟩⟩
    ·have:i=Y.length:=by omega
     subst this
     simp only[Int.lt_irrefl,decide_false,cond_false]
     rw[List.take_length] at ht
     rw[hM,ht];rfl
   ·simp only[bne_iff_ne.2 hy,Bool.or_true,cond_true]
    rw[hM,if_pos (.inr hy)]
  ·simp only[bne_iff_ne.2 hx,Bool.true_or,cond_true]
   rw[hM,if_pos (.inl hx)]
 ·rw[bne_iff_ne.2 he]
  simp[ZcE,he]
theorem Zdp(C:List Int):Zcm (Zcm C)=C:=by
 unfold Zcm
 rw[List.map_map]
 conv=>rhs;rw[← List.map_id C]
 exact List.map_congr_left fun n _=>by simp
theorem Zm2(C:List Int):Zbi (Zcm C)=Zbi C:=by
 unfold Zbi Zcm
 rw[List.foldl_map]
 simp
theorem ZdM:∀ {C:List Int},Zbi C≠0→Za7 (Zcm C)=!Za7 C
 | [],h=>by simp[Zbi] at h
 | n::C,h=>by
   simp only[Zcm,List.map_cons,Za7]
   by_cases h0:n=0
   ·subst h0
    rw[ZgX] at h
    simp at h
    simp only[Int.neg_zero,if_true]
    exact ZdM h
   ·rw[if_neg h0,if_neg (show -n≠0 by omega)]
    by_cases h1:n < 0
    ·rw[decide_eq_true h1,decide_eq_false (show ¬ -n < 0 by omega)];rfl
    ·rw[decide_eq_false h1,decide_eq_true (show -n < 0 by omega)];rfl
theorem ZsA{C:List Int}(h:Zbi C=1):Zcm C≠C:=fun e=>by
 have:=ZdM (C:=C) (by omega)
 rw[e] at this
 cases h2:Za7 C<;>rw[h2] at this<;>cases this
abbrev ZlC(c:Zc):Zc:=(ZbF (1,0,c.2.2)).1
theorem Zpu{c d:Zc}(h:Zbi c.2.2.1=1)(h1:d.2.2.1=Zcm c.2.2.1)(h2:c.2.2.2+d.2.2.2=0):ZlC d=ZlC c:=by
 obtain⟨k,m,C,K⟩:=c
 obtain⟨k',m',C',K'⟩:=d
 simp only at h h1 h2
 subst h1
 have h3:K'=-K:=by omega
 subst h3
 have hf:=ZdM (C:=C) (by omega)
 have hs:Zbv (1,0,Zcm C,-K)=-Zbv (1,0,C,K):=by
  simp only[Zbv,Zm2,hf]
  cases Za7 C<;>simp
 have ha:∀ s K:Int,∀ C:List Int,Zbi C=1→eqF (1,0,C,K)=((1,0,C.map (·.tdiv (Zbv (1,0,C,K))),K.tdiv (Zbv (1,0,C,K))),0):=fun s K C hC=>by
  have:¬ (Zbi C=0∨K.tmod (Zbi C)≠0):=by
   rw[hC]
   rintro (h | h)
   ·omega
   ·exact h (tmod_one _)
  unfold eqF
  exact if_neg this
 show (eqF (1,0,Zcm C,-K)).1=(eqF (1,0,C,K)).1
 rw[ha 0 _ _ h,ha 0 _ _ (by rw[Zm2];exact h),hs]
 simp only[Zcm,List.map_map,Int.tdiv_neg,Int.neg_tdiv,Int.neg_neg]
 congr 4
 funext n
 simp
def Mk(n:Nat)(c:Zc):Prop:=Zmy n c∧ZgB c.1∧(c.1=0→c.2.1=0)
theorem Mk.gcd{n:Nat}{c:Zc}(h:Mk n c)(h0:c.1=0):Zbi c.2.2.1=1:=h.1.2.1 (by omega)
theorem ZdD{n:Nat}{c:Zc}(h:Mk n c)(h0:c.1=0):Mk n (ZlC c)∧(ZlC c).1=1:=by
 obtain⟨h1,h2,h3⟩:=Zpe h.1 h0
 exact⟨⟨h2,.inr (.inl h3),fun h=>by rw[h3] at h;cases h⟩,h3⟩
def Lm(l:List Zc)(c:Zc):Prop:=c∈l∧(c.1=0→∀ d∈l,d.1=0→d.2.2.1=c.2.2.1→c.2.2.2≤d.2.2.2)
theorem Lm.uniq{n:Nat}{l:List Zc}(hl:∀ c∈l,Mk n c){c d:Zc}(hc:Lm l c)(hd:Lm l d)(h0:c.1=0)(h1:d.1=0)(h:c.2.2.1=d.2.2.1):c=d:=by
 have a:=hc.2 h0 d hd.1 h1 h.symm
 have b:=hd.2 h1 c hc.1 h0 h
 have e1:=(hl c hc.1).2.2 h0
 have e2:=(hl d hd.1).2.2 h1
 exact Prod.ext (by omega) (Prod.ext (by omega) (Prod.ext h (by omega)))
def Opp(L:Zc→Prop)(c:Zc):Prop:=∃ d,L d∧d.1=0∧d.2.2.1=Zcm c.2.2.1∧c.2.2.2+d.2.2.2=0
def Zhv(L:Zc→Prop):Prop:=∃ c d,L c∧L d∧c.1=0∧d.1=0∧d.2.2.1=Zcm c.2.2.1∧c.2.2.2+d.2.2.2 < 0
def MM(L:Zc→Prop)(x:Zc):Prop:=(L x∧(x.1=0→¬ Opp L x))∨∃ c,L c∧c.1=0∧Opp L c∧x=ZlC c
def Zgd(M:Zc→Prop):Prop:=(∃ e f,M e∧M f∧e.1=1∧f.1=1∧e.2.2.1=f.2.2.1∧e.2.2.2≠f.2.2.2)∨∃ c e,M c∧M e∧c.1=0∧e.1=1∧((e.2.2.1=c.2.2.1∧c.2.2.2 < e.2.2.2)∨(e.2.2.1=Zcm c.2.2.1∧c.2.2.2+e.2.2.2 < 0))
def Zuw(M:Zc→Prop)(x:Zc):Prop:=M x∧(x.1=0→∀ e,M e→e.1=1→e.2.2.1≠x.2.2.1∧e.2.2.1≠Zcm x.2.2.1)
theorem Zl4{l:List Zc}{c:Zc}(h:c.1≠0)(x:Zc):Lm (l++[c]) x↔Lm l x∨x=c:=by
 simp only[Lm,List.mem_append,List.mem_singleton]
 constructor
 ·rintro⟨h1 | h1,h2⟩
  ·exact .inl ⟨h1,fun h0 d hd=>h2 h0 d (.inl hd)⟩
  ·exact .inr h1
 ·rintro (⟨h1,h2⟩ | rfl)
  ·refine⟨.inl h1,fun h0 d hd hd0=>?_⟩
   rcases hd with hd | rfl
   ·exact h2 h0 d hd hd0
   ·exact absurd hd0 h
  ·exact⟨.inr rfl,fun h0=>absurd h0 h⟩
theorem Zg9{n:Nat}{l:List Zc}{c:Zc}(hl:∀ d∈l,Mk n d)(hc:Mk n c)(h:c.1=0)(x:Zc):Lm (l++[c]) x↔(Lm l x∧¬ (x.1=0∧x.2.2.1=c.2.2.1))∨(x.1=0∧x.2.2.1=c.2.2.1∧((∃ d,Lm l d∧d.1=0∧d.2.2.1=c.2.2.1∧x=ZhU d c.2.2.2)∨(¬ (∃ d,Lm l d∧d.1=0∧d.2.2.1=c.2.2.1)∧x=c))):=by
 have hmem:∀ y,y∈l++[c]↔y∈l∨y=c:=fun y=>by simp
 have hmin:∀ (y:Zc),y∈l→y.1=0→∃ d,Lm l d∧d.1=0∧d.2.2.1=y.2.2.1∧d.2.2.2≤y.2.2.2:=by
  have key:∀ (m:List Zc),(∀ y∈m,y∈l)→∀ y∈m,y.1=0→∃ d∈m,d.1=0∧d.2.2.1=y.2.2.1∧d.2.2.2≤y.2.2.2∧∀ z∈m,z.1=0→z.2.2.1=y.2.2.1→d.2.2.2≤z.2.2.2:=by
   intro m
   induction m with
   | nil=>intro _ y hy;cases hy
   | cons a m ih =>
     intro hs y hy h0
     have ih':=ih fun z hz=>hs z (by simp[hz])
     rcases List.mem_cons.1 hy with rfl | hy
     ·by_cases hex:∃ z∈m,z.1=0∧z.2.2.1=y.2.2.1
      ·obtain⟨z,hz,hz0,hz1⟩:=hex
       obtain⟨d,hd,hd0,hd1,hd2,hd3⟩:=ih' z hz hz0
       by_cases hlt:d.2.2.2≤y.2.2.2
       ·refine⟨d,by simp[hd],hd0,hd1.trans hz1,hlt,fun w hw hw0 hw1=>?_⟩
        rcases List.mem_cons.1 hw with rfl | hw
        ·exact hlt
        ·exact hd3 w hw hw0 (hw1.trans hz1.symm)
       ·refine⟨y,by simp,h0,rfl,Int.le_refl _,fun w hw hw0 hw1=>?_⟩
        rcases List.mem_cons.1 hw with rfl | hw
        ·exact Int.le_refl _
        ·have:=hd3 w hw hw0 (hw1.trans hz1.symm);omega
      ·refine⟨y,by simp,h0,rfl,Int.le_refl _,fun w hw hw0 hw1=>?_⟩
       rcases List.mem_cons.1 hw with rfl | hw
       ·exact Int.le_refl _
       ·exact absurd ⟨w,hw,hw0,hw1⟩ hex
     ·obtain⟨d,hd,hd0,hd1,hd2,hd3⟩:=ih' y hy h0
      by_cases ha:a.1=0∧a.2.2.1=y.2.2.1∧a.2.2.2 < d.2.2.2
      ·refine⟨a,by simp,ha.1,ha.2.1,by omega,fun w hw hw0 hw1=>?_⟩
       rcases List.mem_cons.1 hw with rfl | hw
       ·exact Int.le_refl _
       ·have:=hd3 w hw hw0 hw1;omega
      ·refine⟨d,by simp[hd],hd0,hd1,hd2,fun w hw hw0 hw1=>?_⟩
       rcases List.mem_cons.1 hw with rfl | hw
       ·apply Int.le_of_not_gt
        intro hgt
        exact ha ⟨hw0,hw1,hgt⟩
       ·exact hd3 w hw hw0 hw1
  intro y hy h0
  obtain⟨d,hd,hd0,hd1,hd2,hd3⟩:=key l (fun y h=>h) y hy h0
  exact⟨d,⟨hd,fun _ z hz hz0 hz1=>hd3 z hz hz0 (hz1.trans hd1)⟩,hd0,hd1,hd2⟩
 have heq:∀ (y z:Zc),Mk n y→Mk n z→y.1=0→z.1=0→y.2.2.1=z.2.2.1→y.2.2.2=z.2.2.2→y=z:=fun y z hy hz h1 h2 h3 h4=>by
  have e1:=hy.2.2 h1
  have e2:=hz.2.2 h2
  exact Prod.ext (by omega) (Prod.ext (by omega) (Prod.ext h3 h4))
 constructor
 ·rintro⟨hx,hx2⟩
  by_cases hxc:x.1=0∧x.2.2.1=c.2.2.1
  ·right
   refine⟨hxc.1,hxc.2,?_⟩
   have hmin':=hx2 hxc.1
   have hcx:=hmin' c ((hmem c).2 (.inr rfl)) h hxc.2.symm
   by_cases hex:∃ d,Lm l d∧d.1=0∧d.2.2.1=c.2.2.1
   ·left
    obtain⟨d,hd,hd0,hd1⟩:=hex
    have hdx:=hmin' d ((hmem d).2 (.inl hd.1)) hd0 (hd1.trans hxc.2.symm)
    have hmd:=hl d hd.1
    refine⟨d,hd,hd0,hd1,?_⟩
    rcases (hmem x).1 hx with hxl | rfl
    ·have h3:=hd.2 hd0 x hxl hxc.1 (hxc.2.trans hd1.symm)
     refine heq x (ZhU d c.2.2.2) (hl x hxl) hmd hxc.1 hd0 (hxc.2.trans hd1.symm) ?_
     show x.2.2.2=min d.2.2.2 c.2.2.2
     omega
    ·refine heq x (ZhU d x.2.2.2) hc hmd hxc.1 hd0 hd1.symm ?_
     show x.2.2.2=min d.2.2.2 x.2.2.2
     omega
   ·right
    refine⟨hex,?_⟩
    rcases (hmem x).1 hx with hxl | rfl
    ·obtain⟨d,hd,hd0,hd1,_⟩:=hmin x hxl hxc.1
     exact absurd ⟨d,hd,hd0,hd1.trans hxc.2⟩ hex
    ·rfl
  ·left
   refine⟨?_,hxc⟩
   rcases (hmem x).1 hx with hxl | rfl
   ·exact⟨hxl,fun h0 d hd=>hx2 h0 d ((hmem d).2 (.inl hd))⟩
   ·exact absurd ⟨h,rfl⟩ hxc
 ·rintro (⟨hx,hxc⟩ | ⟨h0,hxc,⟨d,hd,hd0,hd1,rfl⟩ | ⟨hex,rfl⟩⟩)
  ·refine⟨(hmem x).2 (.inl hx.1),fun h0 d hd hd0 hd1=>?_⟩
   rcases (hmem d).1 hd with hd | rfl
   ·exact hx.2 h0 d hd hd0 hd1
   ·exact absurd ⟨h0,hd1.symm⟩ hxc
  ·have hmd:=hl d hd.1
   refine⟨?_,fun _ z hz hz0 hz1=>?_⟩
   ·by_cases hlt:d.2.2.2≤c.2.2.2
    ·have:ZhU d c.2.2.2=d:=heq _ _ hmd hmd hd0 hd0 rfl (by show min d.2.2.2 c.2.2.2=_;omega)
     rw[this];exact (hmem d).2 (.inl hd.1)
    ·have:ZhU d c.2.2.2=c:=heq _ _ hmd hc hd0 h hd1 (by show min d.2.2.2 c.2.2.2=_;omega)
     rw[this];exact (hmem c).2 (.inr rfl)
   ·show min d.2.2.2 c.2.2.2≤_
    rcases (hmem z).1 hz with hz | rfl
    ·have:=hd.2 hd0 z hz hz0 hz1;omega
    ·omega
  ·refine⟨(hmem x).2 (.inr rfl),fun _ z hz hz0 hz1=>?_⟩
   rcases (hmem z).1 hz with hz | rfl
   ·obtain⟨d,hd,hd0,hd1,_⟩:=hmin z hz hz0
    exact absurd ⟨d,hd,hd0,hd1.trans hz1⟩ hex
   ·exact Int.le_refl _
theorem Zqr{C:List Int}{out:List Zc}(h:ZeJ C out=none):∀ d∈out,¬ (d.1=0∧d.2.2.1=C):=by
 intro d hd
 have:=List.findIdx?_eq_none_iff.1 h d hd
 simpa using this
def Zys(out:List Zc):Prop:=∀ i j,i < out.length→j < out.length→(out.getD i Za).1=0→(out.getD j Za).1=0→(out.getD i Za).2.2.1=(out.getD j Za).2.2.1→i=j
theorem Zdk{n:Nat}:∀ {l:List Zc},(∀ c∈l,Mk n c)→∀ x,x∈ZbM l↔Lm l x:=by
 intro l hl
 have key:∀ k,k≤l.length→(∀ x,x∈ZbM (l.take k)↔Lm (l.take k) x)∧Zys (ZbM (l.take k)):=by
  intro k
  induction k with
  | zero=>exact fun _=>⟨fun x=>by simp[ZbM,Lm],fun i j hi=>by simp[ZbM] at hi⟩
  | succ k ih =>
    intro hk
    obtain⟨ih1,ih2⟩:=ih (by omega)
    have e:k < l.length:=by omega
    have hst:ZbM (l.take (k+1))=Zbr (ZbM (l.take k)) (l.getD k Za):=by
     rw[Zy Za e,ZbM,List.foldl_append];rfl
    rw[hst,Zy Za e]
    have hc:=hl _ (Zi (d:=Za) e)
    have hlk:∀ d∈l.take k,Mk n d:=fun d hd=>hl d (List.mem_of_mem_take hd)
    generalize l.getD k Za=c at *
    generalize l.take k=m at *
    generalize ZbM m=out at *
    by_cases h0:c.1=0
    ·have hls : Zbr out c = match ZeJ c.2.2.1 out with
      | some i=>out.set i (ZhU (out.getD i Za) c.2.2.2)
      | none=>out++[c]:=by
      unfold Zbr;exact if_neg fun h=>h h0
     rw[hls]
     rcases Z8 (ZeJ c.2.2.1 out) with hg | ⟨i,hg⟩
     ·rw[hg]
      have hno:=Zqr hg
      constructor
      ·intro x
       rw[Zg9 hlk hc h0]
       simp only[List.mem_append,List.mem_singleton]
       constructor
       ·rintro (hx | rfl)
        ·exact .inl ⟨(ih1 x).1 hx,hno x hx⟩
        ·exact .inr ⟨h0,rfl,.inr ⟨fun ⟨d,hd,hd0,hd1⟩=>hno d ((ih1 d).2 hd) ⟨hd0,hd1⟩,rfl⟩⟩
       ·rintro (⟨hx,_⟩ | ⟨_,_,⟨d,hd,hd0,hd1,_⟩ | ⟨_,rfl⟩⟩)
        ·exact .inl ((ih1 x).2 hx)
        ·exact absurd ⟨hd0,hd1⟩ (hno d ((ih1 d).2 hd))
        ·exact .inr rfl
      ·intro i j hi hj hi0 hj0 hij
       simp only[List.length_append,List.length_cons,List.length_nil] at hi hj
       have hget:∀ i,i < out.length→(out++[c]).getD i Za=out.getD i Za:=fun i hi=>by
        rw[ZN (by simp;omega),ZN hi,List.getElem_append_left hi]
       have hlast:(out++[c]).getD out.length Za=c:=by
        rw[ZN (by simp)];simp
       by_cases h1:i < out.length<;>by_cases h2:j < out.length
       ·rw[hget i h1] at hi0 hij
        rw[hget j h2] at hj0 hij
        exact ih2 i j h1 h2 hi0 hj0 hij
       ·have:j=out.length:=by omega
        subst this
        rw[hget i h1] at hi0 hij
        rw[hlast] at hij
        exact absurd ⟨hi0,hij⟩ (hno _ (Zi h1))
       ·have:i=out.length:=by omega
        subst this
        rw[hget j h2] at hj0 hij
        rw[hlast] at hij
        exact absurd ⟨hj0,hij.symm⟩ (hno _ (Zi h2))
       ·omega
     ·rw[hg]
      simp only
      obtain⟨hi,hi0,hi1⟩:=Zhc hg
      have hgi:=ZN (d:=Za) hi
      rw[← hgi] at hi0 hi1
      have hdm:=Zi (d:=Za) hi
      constructor
      ·intro x
       rw[Zg9 hlk hc h0]
       constructor
       ·intro hx
        obtain⟨j,hj,rfl⟩:=Zb9 (d:=Za) hx
        rw[List.length_set] at hj
        by_cases hij:i=j
        ·subst hij
         have e1:(out.set i (ZhU (out.getD i Za) c.2.2.2)).getD i Za=ZhU (out.getD i Za) c.2.2.2:=by
          rw[ZN (by simpa using hj),List.getElem_set_self]
         rw[e1]
         exact .inr ⟨hi0,hi1,.inl ⟨_,(ih1 _).1 hdm,hi0,hi1,rfl⟩⟩
        ·have e1:(out.set i (ZhU (out.getD i Za) c.2.2.2)).getD j Za=out.getD j Za:=by
          rw[ZN (by simpa using hj),List.getElem_set_ne hij,ZN hj]
         rw[e1]
         refine .inl ⟨(ih1 _).1 (Zi hj),fun h=>hij (ih2 i j hi hj hi0 h.1 (hi1.trans h.2.symm))⟩
       ·rintro (⟨hx,hxc⟩ | ⟨hx0,hxc,⟨d,hd,hd0,hd1,rfl⟩ | ⟨hex,rfl⟩⟩)
        ·obtain⟨j,hj,rfl⟩:=Zb9 (d:=Za) ((ih1 x).2 hx)
         have hij:i≠j:=fun e=>by subst e;exact hxc ⟨hi0,hi1⟩
         have e1:(out.set i (ZhU (out.getD i Za) c.2.2.2)).getD j Za=out.getD j Za:=by
          rw[ZN (by simpa using hj),List.getElem_set_ne hij,ZN hj]
         rw[← e1]
         exact Zi (by simpa using hj)
        ·have hdd:d=out.getD i Za:=Lm.uniq hlk hd ((ih1 _).1 hdm) hd0 hi0 (hd1.trans hi1.symm)
         rw[hdd]
         exact List.mem_iff_getElem.2 ⟨i,by simpa using hi,by rw[List.getElem_set_self]⟩
        ·exact absurd ⟨_,(ih1 _).1 hdm,hi0,hi1⟩ hex
      ·intro a b ha hb ha0 hb0 hab
       rw[List.length_set] at ha hb
       have hget:∀ j,j < out.length→((out.set i (ZhU (out.getD i Za) c.2.2.2)).getD j Za).1=(out.getD j Za).1∧((out.set i (ZhU (out.getD i Za) c.2.2.2)).getD j Za).2.2.1=(out.getD j Za).2.2.1:=fun j hj=>by
        by_cases hij:i=j
        ·subst hij
         rw[ZN (show i < (out.set i (ZhU (out.getD i Za) c.2.2.2)).length by simpa using hj),List.getElem_set_self]
         exact⟨rfl,rfl⟩
        ·rw[ZN (show j < (out.set i (ZhU (out.getD i Za) c.2.2.2)).length by simpa using hj),List.getElem_set_ne hij,ZN hj]
         exact⟨rfl,rfl⟩
       rw[(hget a ha).1] at ha0
       rw[(hget b hb).1] at hb0
       rw[(hget a ha).2,(hget b hb).2] at hab
       exact ih2 a b ha hb ha0 hb0 hab
    ·have hls:Zbr out c=out++[c]:=by unfold Zbr;exact if_pos h0
     rw[hls]
     constructor
     ·intro x
      rw[Zl4 h0,List.mem_append,List.mem_singleton,ih1]
     ·intro i j hi hj hi0 hj0 hij
      simp only[List.length_append,List.length_cons,List.length_nil] at hi hj
      have hget:∀ i,i < out.length→(out++[c]).getD i Za=out.getD i Za:=fun i hi=>by
       rw[ZN (by simp;omega),ZN hi,List.getElem_append_left hi]
      have hlast:(out++[c]).getD out.length Za=c:=by
       rw[ZN (by simp)];simp
      by_cases h1:i < out.length<;>by_cases h2:j < out.length
      ·rw[hget i h1] at hi0 hij
       rw[hget j h2] at hj0 hij
       exact ih2 i j h1 h2 hi0 hj0 hij
      ·have:j=out.length:=by omega
       subst this
       rw[hlast] at hj0
       exact absurd hj0 h0
      ·have:i=out.length:=by omega
       subst this
       rw[hlast] at hi0
       exact absurd hi0 h0
      ·omega
 have:=(key l.length (Nat.le_refl _)).1
 rwa [List.take_length] at this
theorem Zhl{α τ:Type}{V:Prop}{P:Nat→τ→Prop}(l:List α)(d:α)(f:τ→α→Option τ)(a:τ)(h0:P 0 a)(hs:∀ i t,i < l.length→P i t→(f t (l.getD i d)=none→V)∧∀ t',f t (l.getD i d)=some t'→P (i+1) t'):(l.foldlM f a=none→V)∧∀ t,l.foldlM f a=some t→P l.length t:=by
 have key:∀ k,k≤l.length→((l.take k).foldlM f a=none→V)∧∀ t,(l.take k).foldlM f a=some t→P k t:=by
  intro k
  induction k with
  | zero=>intro _;exact⟨fun h=>(by have h':some a=none:=h;cases h'),fun t h=>by (have h':some a=some t:=h);cases h';exact h0⟩
  | succ k ih =>
    intro hk
    obtain⟨ih1,ih2⟩:=ih (by omega)
    rcases Z8 ((l.take k).foldlM f a) with h | ⟨t,h⟩
    ·have:(l.take (k+1)).foldlM f a=none:=by
      rw[Zy d (show k < l.length by omega),List.foldlM_append,h];rfl
     rw[this]
     exact⟨fun _=>ih1 h,fun t h=>by cases h⟩
    ·have hs':=hs k t (by omega) (ih2 t h)
     rw[ZbW (d:=d) h (by omega)]
     exact hs'
 have:=key l.length (Nat.le_refl _)
 rwa [List.take_length] at this
theorem ZjJ{C:List Int}:∀ {l:List Zc} {k:Nat},Zde C l k=none→∀ d∈l,¬ (d.1=0∧d.2.2.1=C)
 | [],k,_=>by simp
 | e::l,k,h=>by
   simp only[Zde] at h
   rcases Z8 (Zde C l (k+1)) with h1 | ⟨j,h1⟩
   ·rw[h1] at h
    simp only at h
    split at h
    ·cases h
    ·rename_i h2
     intro d hd
     rcases List.mem_cons.1 hd with rfl | hd
     ·exact h2
     ·exact ZjJ h1 d hd
   ·rw[h1] at h;cases h
def Zxu(L:List Zc):Prop:=∀ c∈L,∀ d∈L,c.1=0→d.1=0→c.2.2.1=d.2.2.1→c=d
theorem ZmC{n:Nat}{L:List Zc}(hm:∀ c∈L,Mk n c)(hu:Zxu L):(ZeO L=none→Zhv (· ∈ L))∧∀ out,ZeO L=some out→¬ Zhv (· ∈ L)∧∀ x,x∈out↔MM (· ∈ L) x:=by
 let P:Nat→List Zc×(Int→Option Bool)→Prop:=fun i st =>
  (∀ k,k < i→k < L.length→((L.getD k Za).1=0→(∀ d∈L,d.1=0→d.2.2.1=Zcm (L.getD k Za).2.2.1→0≤(L.getD k Za).2.2.2+d.2.2.2)∧(¬ Opp (· ∈ L) (L.getD k Za)→L.getD k Za∈st.1)∧(Opp (· ∈ L) (L.getD k Za)→ZlC (L.getD k Za)∈st.1))∧((L.getD k Za).1≠0→L.getD k Za∈st.1)) ∧
  (∀ x∈st.1,MM (· ∈ L) x) ∧
  (∀ k:Nat,st.2 (k:Int)=some true→k < L.length∧(L.getD k Za).1=0∧Opp (· ∈ L) (L.getD k Za)∧ZlC (L.getD k Za)∈st.1)
 have hinv:=Zhl (V:=Zhv (· ∈ L)) (P:=P) (Zdb L) (0,Za) (Zci L) ([],fun _=>none) ⟨fun k hk=>absurd hk (by omega),by simp,fun k h=>by cases h⟩ (by
  rintro i ⟨out,gone⟩ hi ⟨hA,hB,hG⟩
  rw[Zck] at hi
  rw[ZhI hi]
  have hcm:=Zi (d:=Za) hi
  have hput : ∀ x, MM (· ∈ L) x → ∀ g : Int → Option Bool, (∀ k : Nat, g (k : Int) = some true → k < L.length ∧ (L.getD k Za).1 = 0 ∧ Opp (· ∈ L) (L.getD k Za) ∧ ZlC (L.getD k Za) ∈ out ++ [x]) →
   (((L.getD i Za).1=0→(∀ d∈L,d.1=0→d.2.2.1=Zcm (L.getD i Za).2.2.1→0≤(L.getD i Za).2.2.2+d.2.2.2)∧(¬ Opp (· ∈ L) (L.getD i Za)→L.getD i Za∈out++[x])∧(Opp (· ∈ L) (L.getD i Za)→ZlC (L.getD i Za)∈out++[x]))∧((L.getD i Za).1≠0→L.getD i Za∈out++[x]))→P (i+1) (out++[x],g):=by
   intro x hx g hg hi'
   refine⟨fun k hk hkl=>?_,fun y hy=>?_,hg⟩
   ·by_cases hki:k=i
    ·subst hki;exact hi'
    ·obtain⟨h1,h2⟩:=hA k (by omega) hkl
     exact⟨fun h0=>⟨(h1 h0).1,fun h=>List.mem_append.2 (.inl ((h1 h0).2.1 h)),fun h=>List.mem_append.2 (.inl ((h1 h0).2.2 h))⟩,fun h=>List.mem_append.2 (.inl (h2 h))⟩
   ·rcases List.mem_append.1 hy with hy | hy
    ·exact hB y hy
    ·simp only[List.mem_singleton] at hy;subst hy;exact hx
  have hG':∀ x,∀ k:Nat,gone (k:Int)=some true→k < L.length∧(L.getD k Za).1=0∧Opp (· ∈ L) (L.getD k Za)∧ZlC (L.getD k Za)∈out++[x]:=fun x k h=>by
   obtain⟨h1,h2,h3,h4⟩:=hG k h
   exact⟨h1,h2,h3,List.mem_append.2 (.inl h4)⟩
  have hlast:∀ x:Zc,x∈out++[x]:=fun x=>by simp
  simp only[Zci]
  by_cases hg:(gone (i:Int)).getD false=true
  ·rw[if_pos hg]
   refine⟨fun h=>(by cases h),fun t' ht'=>?_⟩
   cases ht'
   have hgs:gone (i:Int)=some true:=by
    rcases Z8 (gone (i:Int)) with h | ⟨b,h⟩
    ·rw[h] at hg;cases hg
    ·rw[h] at hg ⊢;simp only[Option.getD_some] at hg;rw[hg]
   obtain⟨h1,h2,h3,h4⟩:=hG i hgs
   refine⟨fun k hk hkl=>?_,hB,hG⟩
   by_cases hki:k=i
   ·subst hki
    refine⟨fun h0=>⟨fun d hd hd0 hd1=>?_,fun h=>absurd h3 h,fun _=>h4⟩,fun h=>absurd h2 h⟩
    obtain⟨d',hd',hd0',hd1',hd2'⟩:=h3
    have:d=d':=hu d hd d' hd' hd0 hd0' (hd1.trans hd1'.symm)
    subst this
    omega
   ·exact hA k (by omega) hkl
  ·rw[if_neg hg]
   by_cases h0:(L.getD i Za).1=0
   ·rw[if_neg (fun h=>h h0)]
    have hmk:=hm _ hcm
    rcases Z8 (Zde (Zcm (L.getD i Za).2.2.1) L 0) with hj | ⟨j,hj⟩
    ·rw[hj]
     have hno:=ZjJ hj
     have hnopp:¬ Opp (· ∈ L) (L.getD i Za):=fun ⟨d,hd,hd0,hd1,_⟩=>hno d hd ⟨hd0,hd1⟩
     refine⟨fun h=>(by cases h),fun t' ht'=>?_⟩
     cases ht'
     exact hput _ (.inl ⟨hcm,fun _=>hnopp⟩) _ (hG' _) ⟨fun _=>⟨fun d hd hd0 hd1=>absurd ⟨hd0,hd1⟩ (hno d hd),fun _=>hlast _,fun h=>absurd h hnopp⟩,fun h=>absurd h0 h⟩
    ·rw[hj]
     obtain⟨_,hj1,hj2,hj3⟩:=ZfY hj
     simp only[Nat.sub_zero] at hj1 hj2 hj3
     rw[← ZN (d:=Za) hj1] at hj2 hj3
     have hdm:=Zi (d:=Za) hj1
     simp only
     have huj:∀ d∈L,d.1=0→d.2.2.1=Zcm (L.getD i Za).2.2.1→d=L.getD j Za:=fun d hd hd0 hd1=>hu d hd _ hdm hd0 hj2 (hd1.trans hj3.symm)
     by_cases h1:(L.getD i Za).2.2.2+(L.getD j Za).2.2.2 < 0
     ·rw[if_pos h1]
      exact⟨fun _=>⟨_,_,hcm,hdm,h0,hj2,hj3,h1⟩,fun t' h=>by cases h⟩
     ·rw[if_neg h1]
      by_cases h2:(L.getD i Za).2.2.2+(L.getD j Za).2.2.2=0
      ·rw[if_pos h2]
       have hopp:Opp (· ∈ L) (L.getD i Za):=⟨_,hdm,hj2,hj3,h2⟩
       have hteq:=Zpu (hmk.gcd h0) hj3 h2
       refine⟨fun h=>(by cases h),fun t' ht'=>?_⟩
       cases ht'
       refine hput (ZlC (L.getD i Za)) (.inr ⟨_,hcm,h0,hopp,rfl⟩) _ (fun k hk=>?_) ⟨fun _=>⟨fun d hd hd0 hd1=>?_,fun h=>absurd hopp h,fun _=>hlast _⟩,fun h=>absurd h0 h⟩
       ·simp only[ZdP] at hk
        by_cases hkj:(k:Int)=(j:Int)
        ·have:k=j:=by omega
         subst this
         refine⟨hj1,hj2,⟨_,hcm,h0,?_,by omega⟩,?_⟩
         ·rw[hj3,Zdp]
         ·rw[hteq];exact hlast _
        ·rw[if_neg hkj] at hk
         exact hG' _ k hk
       ·rw[huj d hd hd0 hd1];omega
      ·rw[if_neg h2]
       have hnopp:¬ Opp (· ∈ L) (L.getD i Za):=fun ⟨d,hd,hd0,hd1,hd2⟩=>by
        rw[huj d hd hd0 hd1] at hd2;exact h2 hd2
       refine⟨fun h=>(by cases h),fun t' ht'=>?_⟩
       cases ht'
       refine hput _ (.inl ⟨hcm,fun _=>hnopp⟩) _ (hG' _) ⟨fun _=>⟨fun d hd hd0 hd1=>?_,fun _=>hlast _,fun h=>absurd h hnopp⟩,fun h=>absurd h0 h⟩
       rw[huj d hd hd0 hd1];omega
   ·rw[if_pos h0]
    refine⟨fun h=>(by cases h),fun t' ht'=>?_⟩
    cases ht'
    exact hput _ (.inl ⟨hcm,fun h=>absurd h h0⟩) _ (hG' _) ⟨fun h=>absurd h h0,fun _=>hlast _⟩)
 have hpf:ZeO L=((Zdb L).foldlM (Zci L) ([],fun _=>none)).map (·.1):=rfl
 rw[hpf]
 rcases Z8 ((Zdb L).foldlM (Zci L) ([],fun _=>none)) with h | ⟨st,h⟩
 ·rw[h]
  exact⟨fun _=>hinv.1 h,fun out h=>by cases h⟩
 ·rw[h]
  refine⟨fun h=>(by cases h),fun out ho=>?_⟩
  cases ho
  obtain⟨hA,hB,hG⟩:=hinv.2 st h
  rw[Zck] at hA
  have hA':∀ c∈L,(c.1=0→(∀ d∈L,d.1=0→d.2.2.1=Zcm c.2.2.1→0≤c.2.2.2+d.2.2.2)∧(¬ Opp (· ∈ L) c→c∈st.1)∧(Opp (· ∈ L) c→ZlC c∈st.1))∧(c.1≠0→c∈st.1):=fun c hc=>by
   obtain⟨k,hk,rfl⟩:=Zb9 (d:=Za) hc
   exact hA k hk hk
  refine⟨?_,fun x=>⟨hB x,?_⟩⟩
  ·rintro⟨c,d,hc,hd,h0,h1,h2,h3⟩
   have:=((hA' c hc).1 h0).1 d hd h1 h2
   omega
  ·rintro (⟨hx,hx2⟩ | ⟨c,hc,h0,ho,rfl⟩)
   ·by_cases h0:x.1=0
    ·exact ((hA' x hx).1 h0).2.1 (hx2 h0)
    ·exact (hA' x hx).2 h0
   ·exact ((hA' c hc).1 h0).2.2 ho
theorem ZlL{C:List Int}{l:List Zc}(h:eqK C l=none):∀ e∈l,¬ (e.1=1∧e.2.2.1=C):=by
 intro e he
 simp only[eqK,Option.map_eq_none_iff,List.find?_eq_none,List.mem_reverse,decide_eq_true_eq] at h
 exact h e he
theorem Zgi{n:Nat}{e f:Zc}(he:Mk n e)(hf:Mk n f)(h1:e.1=1)(h2:f.1=1):f.2.2.1≠Zcm e.2.2.1:=fun h=>by
 have a:=he.1.2.2 h1
 have b:=hf.1.2.2 h2
 have g:=he.1.2.1 (by omega)
 rw[h,ZdM (by omega),a] at b
 cases b
theorem Zi4{n:Nat}{M:List Zc}(hm:∀ c∈M,Mk n c):(Zcl M=none→Zgd (· ∈ M))∧∀ out,Zcl M=some out→¬ Zgd (· ∈ M)∧∀ x,x∈out↔Zuw (· ∈ M) x:=by
 have hmt:∀ {i:Nat} {e:Zc},e∈M.take i→e∈M:=fun h=>List.mem_of_mem_take h
 have h1:=Zhl (V:=Zgd (· ∈ M)) (P:=fun i seen=>seen=M.take i∧∀ e∈M.take i,∀ f∈M.take i,e.1=1→f.1=1→e.2.2.1=f.2.2.1→e.2.2.2=f.2.2.2) M Za Zed [] ⟨rfl,by simp⟩ (by
  rintro i seen hi ⟨rfl,hc⟩
  have hcm:=Zi (d:=Za) hi
  have hts:=Zy Za hi
  have hnew:∀ c:Zc,(∀ e∈M.take i,e.1=1→c.1=1→e.2.2.1=c.2.2.1→e.2.2.2=c.2.2.2)→∀ e∈M.take i++[c],∀ f∈M.take i++[c],e.1=1→f.1=1→e.2.2.1=f.2.2.1→e.2.2.2=f.2.2.2:=fun c h e he f hf e1 f1 ef=>by
   simp only[List.mem_append,List.mem_singleton] at he hf
   rcases he with he | rfl<;>rcases hf with hf | rfl
   ·exact hc e he f hf e1 f1 ef
   ·exact h e he e1 f1 ef
   ·exact (h f hf f1 e1 ef.symm).symm
   ·rfl
  rw[hts]
  unfold Zed
  by_cases h0:(M.getD i Za).1=1
  ·rw[if_neg (fun h=>h h0)]
   rcases Z8 (eqK (M.getD i Za).2.2.1 (M.take i)) with hq | ⟨k,hq⟩
   ·rw[hq]
    have hno:=ZlL hq
    refine⟨fun h=>(by cases h),fun t' ht'=>?_⟩
    cases ht'
    exact⟨rfl,hnew _ fun e he e1 _ ee=>absurd ⟨e1,ee⟩ (hno e he)⟩
   ·rw[hq]
    obtain⟨e,he,e1,e2,e3⟩:=ZtO hq
    simp only
    by_cases hk:k=(M.getD i Za).2.2.2
    ·rw[if_neg (fun h=>h hk)]
     refine⟨fun h=>(by cases h),fun t' ht'=>?_⟩
     cases ht'
     refine⟨rfl,hnew _ fun f hf f1 _ ff=>?_⟩
     rw[hc f hf e he f1 e1 (ff.trans e2.symm),e3,hk]
    ·rw[if_pos hk]
     exact⟨fun _=>.inl ⟨e,_,hmt he,hcm,e1,h0,e2,by rw[e3];exact hk⟩,fun t' h=>by cases h⟩
  ·rw[if_pos h0]
   refine⟨fun h=>(by cases h),fun t' ht'=>?_⟩
   cases ht'
   exact⟨rfl,hnew _ fun e he _ h _=>absurd h h0⟩)
 unfold Zcl
 rcases Z8 (M.foldlM Zed []) with he | ⟨seen,he⟩
 ·rw[he]
  exact⟨fun _=>h1.1 he,fun out h=>by cases h⟩
 ·rw[he]
  simp only
  obtain⟨_,hcf⟩:=h1.2 seen he
  rw[List.take_length] at hcf
  clear h1 he
  have h2:=Zhl (V:=Zgd (· ∈ M)) (P:=fun i out=>(∀ x,x∈out↔x∈M.take i∧(x.1=0→∀ e∈M,e.1=1→e.2.2.1≠x.2.2.1∧e.2.2.1≠Zcm x.2.2.1))∧∀ c∈M.take i,c.1=0→∀ e∈M,e.1=1→(e.2.2.1=c.2.2.1→e.2.2.2≤c.2.2.2)∧(e.2.2.1=Zcm c.2.2.1→0≤c.2.2.2+e.2.2.2)) M Za (ZdZ M) [] ⟨by simp,by simp⟩ (by
   rintro i out hi ⟨hA,hB⟩
   have hcm:=Zi (d:=Za) hi
   have hts:=Zy Za hi
   have hput:((M.getD i Za).1=0→∀ e∈M,e.1=1→e.2.2.1≠(M.getD i Za).2.2.1∧e.2.2.1≠Zcm (M.getD i Za).2.2.1)→(∀ x,x∈out++[M.getD i Za]↔x∈M.take i++[M.getD i Za]∧(x.1=0→∀ e∈M,e.1=1→e.2.2.1≠x.2.2.1∧e.2.2.1≠Zcm x.2.2.1)):=fun h x=>by
    simp only[List.mem_append,List.mem_singleton,hA]
    constructor
    ·rintro (⟨h1,h2⟩ | rfl)
     ·exact⟨.inl h1,h2⟩
     ·exact⟨.inr rfl,h⟩
    ·rintro⟨h1 | h1,h2⟩
     ·exact .inl ⟨h1,h2⟩
     ·exact .inr h1
   have hdrop:((M.getD i Za).1=0∧∃ e∈M,e.1=1∧(e.2.2.1=(M.getD i Za).2.2.1∨e.2.2.1=Zcm (M.getD i Za).2.2.1))→(∀ x,x∈out↔x∈M.take i++[M.getD i Za]∧(x.1=0→∀ e∈M,e.1=1→e.2.2.1≠x.2.2.1∧e.2.2.1≠Zcm x.2.2.1)):=fun ⟨h0,e,he,he1,he2⟩ x=>by
    simp only[List.mem_append,List.mem_singleton,hA]
    constructor
    ·rintro⟨h1,h2⟩;exact⟨.inl h1,h2⟩
    ·rintro⟨h1 | rfl,h2⟩
     ·exact⟨h1,h2⟩
     ·have:=h2 h0 e he he1
      exact (he2.elim this.1 this.2).elim
   have hnew:((M.getD i Za).1=0→∀ e∈M,e.1=1→(e.2.2.1=(M.getD i Za).2.2.1→e.2.2.2≤(M.getD i Za).2.2.2)∧(e.2.2.1=Zcm (M.getD i Za).2.2.1→0≤(M.getD i Za).2.2.2+e.2.2.2))→∀ c∈M.take i++[M.getD i Za],c.1=0→∀ e∈M,e.1=1→(e.2.2.1=c.2.2.1→e.2.2.2≤c.2.2.2)∧(e.2.2.1=Zcm c.2.2.1→0≤c.2.2.2+e.2.2.2):=fun h c hc=>by
    simp only[List.mem_append,List.mem_singleton] at hc
    rcases hc with hc | rfl
    ·exact hB c hc
    ·exact h
   rw[hts]
   unfold ZdZ
   by_cases h0:(M.getD i Za).1=0
   ·rw[if_neg (fun h=>h h0)]
    rcases Z8 (eqK (M.getD i Za).2.2.1 M) with hq | ⟨k,hq⟩
    ·rw[hq]
     have hno:=ZlL hq
     simp only
     rcases Z8 (eqK (Zcm (M.getD i Za).2.2.1) M) with hq2 | ⟨k,hq2⟩
     ·rw[hq2]
      have hno2:=ZlL hq2
      refine⟨fun h=>(by cases h),fun t' ht'=>?_⟩
      cases ht'
      exact⟨hput fun _ e he e1=>⟨fun h=>hno e he ⟨e1,h⟩,fun h=>hno2 e he ⟨e1,h⟩⟩,hnew fun _ e he e1=>⟨fun h=>absurd ⟨e1,h⟩ (hno e he),fun h=>absurd ⟨e1,h⟩ (hno2 e he)⟩⟩
     ·rw[hq2]
      obtain⟨e,he,e1,e2,e3⟩:=ZtO hq2
      simp only
      by_cases hk:(M.getD i Za).2.2.2+k < 0
      ·rw[if_pos hk]
       exact⟨fun _=>.inr ⟨_,e,hcm,he,h0,e1,.inr ⟨e2,by rw[e3];exact hk⟩⟩,fun t' h=>by cases h⟩
      ·rw[if_neg hk]
       refine⟨fun h=>(by cases h),fun t' ht'=>?_⟩
       cases ht'
       refine⟨hdrop ⟨h0,e,he,e1,.inr e2⟩,hnew fun _ f hf f1=>⟨fun h=>absurd ⟨f1,h⟩ (hno f hf),fun h=>?_⟩⟩
       rw[hcf f hf e he f1 e1 (h.trans e2.symm),e3];omega
    ·rw[hq]
     obtain⟨e,he,e1,e2,e3⟩:=ZtO hq
     simp only
     by_cases hk:(M.getD i Za).2.2.2 < k
     ·rw[if_pos hk]
      exact⟨fun _=>.inr ⟨_,e,hcm,he,h0,e1,.inl ⟨e2,by rw[e3];exact hk⟩⟩,fun t' h=>by cases h⟩
     ·rw[if_neg hk]
      refine⟨fun h=>(by cases h),fun t' ht'=>?_⟩
      cases ht'
      refine⟨hdrop ⟨h0,e,he,e1,.inl e2⟩,hnew fun _ f hf f1=>⟨fun h=>?_,fun h=>?_⟩⟩
      ·rw[hcf f hf e he f1 e1 (h.trans e2.symm),e3];omega
      ·exact absurd (e2▸h) (Zgi (hm e he) (hm f hf) e1 f1)
   ·rw[if_pos h0]
    refine⟨fun h=>(by cases h),fun t' ht'=>?_⟩
    cases ht'
    exact⟨hput fun h=>absurd h h0,hnew fun h=>absurd h h0⟩)
  refine⟨h2.1,fun out ho=>?_⟩
  obtain⟨hA,hB⟩:=h2.2 out ho
  rw[List.take_length] at hA hB
  refine⟨?_,fun x=>hA x⟩
  rintro (⟨e,f,he,hf,e1,f1,ef,hk⟩ | ⟨c,e,hc,he,c0,e1,⟨h3,h4⟩ | ⟨h3,h4⟩⟩)
  ·exact hk (hcf e he f hf e1 f1 ef)
  ·have:=(hB c hc c0 e he e1).1 h3;omega
  ·have:=(hB c hc c0 e he e1).2 h3;omega
theorem Znr{c:Zc}(h0:(ZbF c).2=0)(h1:(ZbF c).1.1=0):(ZbF c).1.2.1=0:=by
 have hs:∀ b,(Zc1 b).2≠0:=fun b=>by cases b<;>simp[Zc1]
 unfold ZbF at *
 split at h0
 ·rename_i hk
  rw[if_pos hk]
  unfold geF at *
  split
  ·rfl
  ·rfl
 ·rename_i hk
  rw[if_neg hk] at h1 ⊢
  split at h0
  ·rename_i hk2
   rw[if_pos hk2] at h1 ⊢
   unfold eqF at *
   split
   ·rfl
   ·rfl
  ·rename_i hk2
   rw[if_neg hk2] at h1 ⊢
   unfold Zk6 at *
   split at h1
   ·rename_i ha
    rw[if_pos ha];rfl
   ·rename_i ha
    rw[if_neg ha]
    split at h1
    ·rename_i hb
     rw[if_pos hb];rfl
    ·cases h1
theorem ZjH{p:List Zc}{n:Nat}(h:Zay p)(hd:Zda p n):∀ c∈Zb3 p,Mk n c:=by
 intro c hc
 refine⟨ZmR h hd c hc,((Zpl h).2 c hc).k3,fun h0=>?_⟩
 simp only[Zb3,List.mem_map,List.mem_filter] at hc
 obtain⟨r,⟨⟨d,hd2,rfl⟩,hr⟩,rfl⟩:=hc
 exact Znr (by simpa using hr) h0
theorem Zoy{a b:List Zc}(h:K3 a)(hab:∀ x,x∈a↔x∈b):Za8 a=Za8 b:=by
 have hb:K3 b:=fun c hc=>h c ((hab c).2 hc)
 exact ZrE (Zie h) (Zie hb) fun c=>by rw[Zc6 h,Zc6 hb,hab]
theorem Zsv{n:Nat}{d c:Zc}(h:Mk n d):Mk n (ZhU d c.2.2.2):=h
theorem Zea {p : List Zc} {n : Nat} (hb : Zay p) (hd : Zda p n) (hv : ZaP p = false) :
 (Zhv (Lm (Zb3 p))∨Zgd (MM (Lm (Zb3 p)))→Z9 p=([],true,0)) ∧
 (¬ Zhv (Lm (Zb3 p))→¬ Zgd (MM (Lm (Zb3 p)))→∀ m,(∀ x,x∈m↔Zuw (MM (Lm (Zb3 p))) x)→Z9 p=if ((Zb3 p).any (fun c=>!Zd c)||decide (96 < (Za8 m).length))=true then ([],false,3) else (Za8 m,false,0)):=by
 have hl:=ZjH hb hd
 have e:(fun x=>x∈ZbM (Zb3 p))=Lm (Zb3 p):=funext fun x=>propext (Zdk hl x)
 have hL:∀ c∈ZbM (Zb3 p),Mk n c:=Zig (fun d c hd _=>Zsv hd) hl
 have hu:Zxu (ZbM (Zb3 p)):=fun c hc d hd h0 h1 h=>Lm.uniq hl ((Zdk hl c).1 hc) ((Zdk hl d).1 hd) h0 h1 h
 obtain⟨hp1,hp2⟩:=ZmC hL hu
 rw[e] at hp1 hp2
 have ht:=Zcv p
 rw[hv] at ht
 simp only[Bool.false_eq_true,if_false] at ht
 rcases Z8 (ZeO (ZbM (Zb3 p))) with h1 | ⟨M,h1⟩
 ·rw[h1] at ht
  exact⟨fun _=>ht,fun h=>absurd (hp1 h1) h⟩
 ·obtain⟨hnv,hM⟩:=hp2 M h1
  have eM:(fun x=>x∈M)=MM (Lm (Zb3 p)):=funext fun x=>propext (hM x)
  have hMk:∀ c∈M,Mk n c:=Zop (fun c h0 hc=>(ZdD hc h0).1) hL h1
  obtain⟨hs1,hs2⟩:=Zi4 hMk
  rw[eM] at hs1 hs2
  rw[h1,Option.bind_some] at ht
  rcases Z8 (Zcl M) with h2 | ⟨out,h2⟩
  ·rw[h2] at ht
   exact⟨fun _=>ht,fun _ h=>absurd (hs1 h2) h⟩
  ·obtain⟨hnv2,hO⟩:=hs2 out h2
   rw[h2] at ht
   refine⟨fun h=>(h.elim hnv hnv2).elim,fun _ _ m hm=>?_⟩
   have hk3:K3 out:=fun c hc=>(ZmN (P:=Mk n) hMk h2 c hc).2.1
   have:Za8 out=Za8 m:=Zoy hk3 fun x=>by rw[hO,hm]
   rw[← this];exact ht
theorem Zpd{l:List Zc}{x:Zc}(h0:x.1≠0):Lm l x↔x∈l:=⟨fun h=>h.1,fun h=>⟨h,fun e=>absurd e h0⟩⟩
theorem Zei{a b:Zc}:ZbB a b=1↔a.2.2.1=b.2.2.1:=by
 unfold ZbB
 split
 ·rename_i h;exact⟨fun _=>h,fun _=>rfl⟩
 ·rename_i h
  split
  ·exact⟨fun h=>(by cases h),fun e=>absurd e h⟩
  ·exact⟨fun h=>(by cases h),fun e=>absurd e h⟩
theorem ZgS{a b:Zc}(h:Zbi a.2.2.1=1):ZbB a b=-1↔b.2.2.1=Zcm a.2.2.1:=by
 unfold ZbB
 split
 ·rename_i h1
  exact⟨fun h=>(by cases h),fun e=>absurd (e.symm.trans h1.symm) (ZsA h)⟩
 ·split
  ·rename_i h2;exact⟨fun _=>by rw[h2,Zdp],fun _=>rfl⟩
  ·rename_i h2;exact⟨fun h=>(by cases h),fun e=>absurd (by rw[e,Zdp]) h2⟩
theorem Zfx{a b:Zc}:ZbB a b=0↔a.2.2.1≠b.2.2.1∧a.2.2.1≠Zcm b.2.2.1:=by
 unfold ZbB
 split
 ·rename_i h1;exact⟨fun h=>(by cases h),fun e=>absurd h1 e.1⟩
 ·rename_i h1
  split
  ·rename_i h2;exact⟨fun h=>(by cases h),fun e=>absurd h2 e.2⟩
  ·rename_i h2;exact⟨fun _=>⟨h1,h2⟩,fun _=>rfl⟩
def ZdN(out:List Zc)(c:Zc):List Zc:=out.map fun d=>if d.2.2.1=c.2.2.1 then ZhU d c.2.2.2 else d
def Zgv(out:List Zc)(c:Zc):Bool:=out.any fun d=>decide (d.2.2.1=c.2.2.1)
def Zl9(out:List Zc)(c:Zc):List Zc:=if Zgv out c=true then ZdN out c else out++[c]
theorem ZmD{n:Nat}{m out:List Zc}{c:Zc}(hm:∀ d∈m,Mk n d∧d.1=0)(hc:Mk n c)(h0:c.1=0)(ho:∀ x,x∈out↔Lm m x)(x:Zc):x∈Zl9 out c↔Lm (m++[c]) x:=by
 rw[Zg9 (fun d hd=>(hm d hd).1) hc h0]
 have hg:∀ d∈out,d.1=0:=fun d hd=>(hm d ((ho d).1 hd).1).2
 unfold Zl9
 by_cases hh:Zgv out c=true
 ·rw[if_pos hh]
  obtain⟨e,he,he1⟩:=List.any_eq_true.1 hh
  simp only[decide_eq_true_eq] at he1
  simp only[ZdN,List.mem_map]
  constructor
  ·rintro⟨d,hd,rfl⟩
   by_cases h1:d.2.2.1=c.2.2.1
   ·rw[if_pos h1]
    exact .inr ⟨hg d hd,h1,.inl ⟨d,(ho d).1 hd,hg d hd,h1,rfl⟩⟩
   ·rw[if_neg h1]
    exact .inl ⟨(ho d).1 hd,fun h=>h1 h.2⟩
  ·rintro (⟨hx,hxc⟩ | ⟨hx0,hxc,⟨d,hd,hd0,hd1,rfl⟩ | ⟨hex,rfl⟩⟩)
   ·refine⟨x,(ho x).2 hx,if_neg fun h=>hxc ⟨hg x ((ho x).2 hx),h⟩⟩
   ·exact⟨d,(ho d).2 hd,if_pos hd1⟩
   ·exact absurd ⟨e,(ho e).1 he,hg e he,he1⟩ hex
 ·rw[if_neg hh]
  have hno:∀ d∈out,d.2.2.1≠c.2.2.1:=fun d hd h=>hh (List.any_eq_true.2 ⟨d,hd,decide_eq_true h⟩)
  simp only[List.mem_append,List.mem_singleton]
  constructor
  ·rintro (hx | rfl)
   ·exact .inl ⟨(ho x).1 hx,fun h=>hno x hx h.2⟩
   ·exact .inr ⟨h0,rfl,.inr ⟨fun ⟨d,hd,hd0,hd1⟩=>hno d ((ho d).2 hd) hd1,rfl⟩⟩
  ·rintro (⟨hx,hxc⟩ | ⟨hx0,hxc,⟨d,hd,hd0,hd1,rfl⟩ | ⟨hex,rfl⟩⟩)
   ·exact .inl ((ho x).2 hx)
   ·exact absurd hd1 (hno d ((ho d).2 hd))
   ·exact .inr rfl
def Zmk(N i j a b:Nat):Prop:=a < b∧b < N∧(a < i∨(a=i∧b < j))
theorem Zdz{N i j a b:Nat}(h:i < j)(hj:j < N):Zmk N i (j+1) a b↔Zmk N i j a b∨(a=i∧b=j):=by
 unfold Zmk;omega
theorem Zl3{N i a b:Nat}:Zmk N i N a b↔Zmk N (i+1) (i+2) a b:=by
 unfold Zmk;omega
theorem Zma{N a b:Nat}:¬ Zmk N 0 1 a b:=by unfold Zmk;omega
theorem ZtV{N i a b:Nat}(h:N≤i):Zmk N i (i+1) a b↔a < b∧b < N:=by unfold Zmk;omega
def ZuW(G:List Zc)(a b:Nat):Prop:=ZbB (G.getD a Za) (G.getD b Za)=-1∧(G.getD a Za).2.2.2+(G.getD b Za).2.2.2=0
structure ZfG (G eq:List Zc) (i j:Nat) (eqs:List Zc) (gone:List Bool):Prop where
 nn:∀ a b,Zmk G.length i j a b→ZbB (G.getD a Za) (G.getD b Za)=-1→0≤(G.getD a Za).2.2.2+(G.getD b Za).2.2.2
 ee:∀ x,x∈eqs↔x∈eq∨∃ a b,Zmk G.length i j a b∧ZuW G a b∧x=ZlC (G.getD a Za)
 gl:gone.length=G.length
 gg:∀ k,k < G.length→(gone.getD k false=true↔∃ a b,Zmk G.length i j a b∧ZuW G a b∧(k=a∨k=b))
theorem ZfG.nil(G eq:List Zc):ZfG G eq 0 1 eq (List.replicate G.length false) :=
 ⟨fun a b h=>absurd h Zma,fun x=>⟨.inl,fun h=>h.elim id fun ⟨a,b,h,_⟩=>absurd h Zma⟩,by simp,fun k hk=>by
  rw[ZN (by simpa using hk)]
  simp only[List.getElem_replicate,Bool.false_eq_true,false_iff]
  rintro⟨a,b,h,_⟩;exact Zma h⟩
theorem ZfG.row{G eq:List Zc}{i:Nat}{eqs:List Zc}{gone:List Bool}(h:ZfG G eq i G.length eqs gone):ZfG G eq (i+1) (i+2) eqs gone :=
 ⟨fun a b h1=>h.nn a b (Zl3.2 h1),fun x=>(h.ee x).trans (by simp only[Zl3]),h.gl,fun k hk=>(h.gg k hk).trans (by simp only[Zl3])⟩
theorem ZfG.skip{G eq:List Zc}{i j:Nat}{eqs:List Zc}{gone:List Bool}(h:ZfG G eq i j eqs gone)(hij:i < j)(hj:j < G.length)(hs:ZbB (G.getD i Za) (G.getD j Za)=-1→0 < (G.getD i Za).2.2.2+(G.getD j Za).2.2.2):ZfG G eq i (j+1) eqs gone:=by
 have hno:¬ ZuW G i j:=fun ⟨h1,h2⟩=>by have:=hs h1;omega
 have hex:∀ P:Nat→Nat→Prop,(∃ a b,Zmk G.length i (j+1) a b∧ZuW G a b∧P a b)↔∃ a b,Zmk G.length i j a b∧ZuW G a b∧P a b:=fun P=>by
  constructor
  ·rintro⟨a,b,h1,h2,h3⟩
   rcases (Zdz hij hj).1 h1 with h1 | ⟨rfl,rfl⟩
   ·exact⟨a,b,h1,h2,h3⟩
   ·exact absurd h2 hno
  ·rintro⟨a,b,h1,h2,h3⟩
   exact⟨a,b,(Zdz hij hj).2 (.inl h1),h2,h3⟩
 refine⟨fun a b h1 h2=>?_,fun x=>(h.ee x).trans (or_congr Iff.rfl (hex _).symm),h.gl,fun k hk=>(h.gg k hk).trans (hex _).symm⟩
 rcases (Zdz hij hj).1 h1 with h1 | ⟨rfl,rfl⟩
 ·exact h.nn a b h1 h2
 ·have:=hs h2;omega
theorem ZfG.put{G eq:List Zc}{i j:Nat}{eqs:List Zc}{gone:List Bool}(h:ZfG G eq i j eqs gone)(hij:i < j)(hj:j < G.length)(hs:ZuW G i j):ZfG G eq i (j+1) (eqs++[ZlC (G.getD i Za)]) ((gone.set i true).set j true):=by
 have hex:∀ P:Nat→Nat→Prop,(∃ a b,Zmk G.length i (j+1) a b∧ZuW G a b∧P a b)↔(∃ a b,Zmk G.length i j a b∧ZuW G a b∧P a b)∨P i j:=fun P=>by
  constructor
  ·rintro⟨a,b,h1,h2,h3⟩
   rcases (Zdz hij hj).1 h1 with h1 | ⟨rfl,rfl⟩
   ·exact .inl ⟨a,b,h1,h2,h3⟩
   ·exact .inr h3
  ·rintro (⟨a,b,h1,h2,h3⟩ | h3)
   ·exact⟨a,b,(Zdz hij hj).2 (.inl h1),h2,h3⟩
   ·exact⟨i,j,(Zdz hij hj).2 (.inr ⟨rfl,rfl⟩),hs,h3⟩
 refine⟨fun a b h1 h2=>?_,fun x=>?_,by simpa using h.gl,fun k hk=>?_⟩
 ·rcases (Zdz hij hj).1 h1 with h1 | ⟨rfl,rfl⟩
  ·exact h.nn a b h1 h2
  ·have:=hs.2;omega
 ·rw[hex,List.mem_append,List.mem_singleton,h.ee,or_assoc]
 ·rw[hex,← h.gg k hk]
  have hgl:=h.gl
  rw[ZN (by simp;omega)]
  by_cases h1:j=k
  ·subst h1
   rw[List.getElem_set_self]
   exact⟨fun _=>.inr (.inr rfl),fun _=>rfl⟩
  ·rw[List.getElem_set_ne h1]
   by_cases h2:i=k
   ·subst h2
    rw[List.getElem_set_self]
    exact⟨fun _=>.inr (.inl rfl),fun _=>rfl⟩
   ·rw[List.getElem_set_ne h2,ZN (show k < gone.length by omega)]
    exact⟨.inl,fun h=>h.elim id fun h=>by omega⟩
structure ZmB (L:Zc→Prop) (G eqs:List Zc) (gone:List Bool):Prop where
 nv:¬ Zhv L
 ee:∀ x,x∈eqs↔MM L x∧x.1=1
 gl:gone.length=G.length
 gg:∀ k,k < G.length→(gone.getD k false=true↔Opp L (G.getD k Za))
theorem ZfG.done{n:Nat}{l G eq:List Zc}{eqs:List Zc}{gone:List Bool}(hl:∀ c∈l,Mk n c)(hG:∀ x,x∈G↔Lm l x∧x.1=0)(hq:∀ x,x∈eq↔x∈l∧x.1=1)(h:ZfG G eq G.length (G.length+1) eqs gone):ZmB (Lm l) G eqs gone:=by
 have hmk:∀ a,a < G.length→Mk n (G.getD a Za)∧(G.getD a Za).1=0∧Lm l (G.getD a Za):=fun a ha=>by
  have:=(hG _).1 (Zi (d:=Za) ha)
  exact⟨hl _ this.1.1,this.2,this.1⟩
 have hsd:∀ a b,a < G.length→b < G.length→(ZbB (G.getD a Za) (G.getD b Za)=-1↔(G.getD b Za).2.2.1=Zcm (G.getD a Za).2.2.1):=fun a b ha hb=>ZgS ((hmk a ha).1.gcd (hmk a ha).2.1)
 have hsym:∀ a b,a < G.length→b < G.length→(G.getD b Za).2.2.1=Zcm (G.getD a Za).2.2.1→(G.getD a Za).2.2.1=Zcm (G.getD b Za).2.2.1:=fun a b ha hb h=>by rw[h,Zdp]
 have hne:∀ a b,a < G.length→b < G.length→(G.getD b Za).2.2.1=Zcm (G.getD a Za).2.2.1→a≠b:=fun a b ha hb h e=>by
  subst e
  exact ZsA ((hmk a ha).1.gcd (hmk a ha).2.1) h.symm
 have hpr:∀ a b,Zmk G.length G.length (G.length+1) a b↔a < b∧b < G.length:=fun a b=>ZtV (Nat.le_refl _)
 have hOpp:∀ k,k < G.length→(Opp (Lm l) (G.getD k Za)↔∃ b,b < G.length∧(G.getD b Za).2.2.1=Zcm (G.getD k Za).2.2.1∧(G.getD k Za).2.2.2+(G.getD b Za).2.2.2=0):=fun k hk=>by
  constructor
  ·rintro⟨d,hd,hd0,hd1,hd2⟩
   obtain⟨b,hb,rfl⟩:=Zb9 (d:=Za) ((hG d).2 ⟨hd,hd0⟩)
   exact⟨b,hb,hd1,hd2⟩
  ·rintro⟨b,hb,h1,h2⟩
   exact⟨_,(hmk b hb).2.2,(hmk b hb).2.1,h1,h2⟩
 refine⟨?_,fun x=>?_,h.gl,fun k hk=>?_⟩
 ·rintro⟨c,d,hc,hd,c0,d0,hcd,hlt⟩
  obtain⟨a,ha,rfl⟩:=Zb9 (d:=Za) ((hG c).2 ⟨hc,c0⟩)
  obtain⟨b,hb,rfl⟩:=Zb9 (d:=Za) ((hG d).2 ⟨hd,d0⟩)
  rcases Nat.lt_or_gt_of_ne (hne a b ha hb hcd) with hab | hab
  ·have:=h.nn a b ((hpr a b).2 ⟨hab,hb⟩) ((hsd a b ha hb).2 hcd);omega
  ·have:=h.nn b a ((hpr b a).2 ⟨hab,ha⟩) ((hsd b a hb ha).2 (hsym a b ha hb hcd));omega
 ·rw[h.ee,hq]
  constructor
  ·rintro (⟨h1,h2⟩ | ⟨a,b,h1,⟨h2,h3⟩,rfl⟩)
   ·exact⟨.inl ⟨(Zpd (by omega)).2 h1,fun h=>by omega⟩,h2⟩
   ·have ha:a < G.length:=by have:=(hpr a b).1 h1;omega
    have hb:b < G.length:=by have:=(hpr a b).1 h1;omega
    exact⟨.inr ⟨_,(hmk a ha).2.2,(hmk a ha).2.1,(hOpp a ha).2 ⟨b,hb,(hsd a b ha hb).1 h2,h3⟩,rfl⟩,(ZdD (hmk a ha).1 (hmk a ha).2.1).2⟩
  ·rintro⟨⟨h1,h2⟩ | ⟨c,hc,c0,ho,rfl⟩,hx1⟩
   ·exact .inl ⟨h1.1,hx1⟩
   ·obtain⟨k,hk,rfl⟩:=Zb9 (d:=Za) ((hG c).2 ⟨hc,c0⟩)
    obtain⟨b,hb,h3,h4⟩:=(hOpp k hk).1 ho
    right
    rcases Nat.lt_or_gt_of_ne (hne k b hk hb h3) with hkb | hkb
    ·exact⟨k,b,(hpr k b).2 ⟨hkb,hb⟩,⟨(hsd k b hk hb).2 h3,h4⟩,rfl⟩
    ·exact⟨b,k,(hpr b k).2 ⟨hkb,hk⟩,⟨(hsd b k hb hk).2 (hsym k b hk hb h3),by omega⟩,(Zpu ((hmk k hk).1.gcd c0) h3 h4).symm⟩
 ·rw[h.gg k hk,hOpp k hk]
  constructor
  ·rintro⟨a,b,h1,⟨h2,h3⟩,h4⟩
   have ha:a < G.length:=by have:=(hpr a b).1 h1;omega
   have hb:b < G.length:=by have:=(hpr a b).1 h1;omega
   have h5:=(hsd a b ha hb).1 h2
   rcases h4 with rfl | rfl
   ·exact⟨b,hb,h5,h3⟩
   ·exact⟨a,ha,hsym a k ha hb h5,by omega⟩
  ·rintro⟨b,hb,h3,h4⟩
   rcases Nat.lt_or_gt_of_ne (hne k b hk hb h3) with hkb | hkb
   ·exact⟨k,b,(hpr k b).2 ⟨hkb,hb⟩,⟨(hsd k b hk hb).2 h3,h4⟩,.inl rfl⟩
   ·exact⟨b,k,(hpr b k).2 ⟨hkb,hk⟩,⟨(hsd b k hb hk).2 (hsym k b hk hb h3),by omega⟩,.inr rfl⟩
structure EqI (G E:List Zc) (gone0:List Bool) (i:Nat) (gone:List Bool):Prop where
 cc:∀ a b,a < i→b < i→(E.getD a Za).2.2.1=(E.getD b Za).2.2.1→(E.getD a Za).2.2.2=(E.getD b Za).2.2.2
 nn:∀ k,k < G.length→gone0.getD k false=false→∀ a,a < i→((E.getD a Za).2.2.1=(G.getD k Za).2.2.1→(E.getD a Za).2.2.2≤(G.getD k Za).2.2.2)∧((E.getD a Za).2.2.1=Zcm (G.getD k Za).2.2.1→0≤(G.getD k Za).2.2.2+(E.getD a Za).2.2.2)
 gl:gone.length=G.length
 gg:∀ k,k < G.length→(gone.getD k false=true↔gone0.getD k false=true∨∃ a,a < i∧ZbB (E.getD a Za) (G.getD k Za)≠0)
theorem EqI.nil{G E:List Zc}{gone0:List Bool}(h:gone0.length=G.length):EqI G E gone0 0 gone0 :=
 ⟨fun a b h=>absurd h (by omega),fun k _ _ a h=>absurd h (by omega),h,fun k hk=>⟨.inl,fun h=>h.elim id fun ⟨a,h,_⟩=>absurd h (by omega)⟩⟩
structure EqR (G E:List Zc) (gone0:List Bool) (i j:Nat) (gone1 gone:List Bool):Prop where
 nn:∀ k,k < j→gone0.getD k false=false→((E.getD i Za).2.2.1=(G.getD k Za).2.2.1→(E.getD i Za).2.2.2≤(G.getD k Za).2.2.2)∧((E.getD i Za).2.2.1=Zcm (G.getD k Za).2.2.1→0≤(G.getD k Za).2.2.2+(E.getD i Za).2.2.2)
 gl:gone.length=G.length
 gg:∀ k,k < G.length→(gone.getD k false=true↔gone1.getD k false=true∨(k < j∧ZbB (E.getD i Za) (G.getD k Za)≠0))
theorem EqI.row{G E:List Zc}{gone0:List Bool}{i:Nat}{gone1 gone:List Bool}(h:EqI G E gone0 i gone1)(hc:∀ a,a < i→(E.getD i Za).2.2.1=(E.getD a Za).2.2.1→(E.getD i Za).2.2.2=(E.getD a Za).2.2.2)(hr:EqR G E gone0 i G.length gone1 gone):EqI G E gone0 (i+1) gone:=by
 refine⟨fun a b ha hb hab=>?_,fun k hk h0 a ha=>?_,hr.gl,fun k hk=>?_⟩
 ·rcases Nat.lt_or_ge a i with h1 | h1<;>rcases Nat.lt_or_ge b i with h2 | h2
  ·exact h.cc a b h1 h2 hab
  ·have:b=i:=by omega
   subst this
   exact (hc a h1 hab.symm).symm
  ·have:a=i:=by omega
   subst this
   exact hc b h2 hab
  ·have:a=b:=by omega
   rw[this]
 ·rcases Nat.lt_or_ge a i with h1 | h1
  ·exact h.nn k hk h0 a h1
  ·have:a=i:=by omega
   subst this
   exact hr.nn k hk h0
 ·rw[hr.gg k hk,h.gg k hk,or_assoc]
  refine or_congr Iff.rfl ⟨?_,?_⟩
  ·rintro (⟨a,ha,h1⟩ | ⟨_,h1⟩)
   ·exact⟨a,by omega,h1⟩
   ·exact⟨i,by omega,h1⟩
  ·rintro⟨a,ha,h1⟩
   rcases Nat.lt_or_ge a i with h2 | h2
   ·exact .inl ⟨a,h2,h1⟩
   ·have:a=i:=by omega
    subst this
    exact .inr ⟨hk,h1⟩
theorem EqR.nil{G E:List Zc}{gone0 gone1:List Bool}{i:Nat}(h:gone1.length=G.length):EqR G E gone0 i 0 gone1 gone1 :=
 ⟨fun k h=>absurd h (by omega),h,fun k hk=>⟨.inl,fun h=>h.elim id fun ⟨h,_⟩=>absurd h (by omega)⟩⟩
theorem EqR.skip{n:Nat}{G E:List Zc}{gone0 gone1 gone:List Bool}{i j:Nat}(hE:∀ a,a≤i→Mk n (E.getD a Za)∧(E.getD a Za).1=1)(hI:EqI G E gone0 i gone1)(hc:∀ a,a < i→(E.getD i Za).2.2.1=(E.getD a Za).2.2.1→(E.getD i Za).2.2.2=(E.getD a Za).2.2.2)(h:EqR G E gone0 i j gone1 gone)(hj:j < G.length)(hs:gone.getD j false=true∨ZbB (E.getD i Za) (G.getD j Za)=0):EqR G E gone0 i (j+1) gone1 gone:=by
 have hneg:∀ {u v:List Int},u=Zcm v→v=Zcm u:=fun {u v} h=>by rw[h,Zdp]
 refine⟨fun k hk h0=>?_,h.gl,fun k hk=>?_⟩
 ·rcases Nat.lt_or_ge k j with h1 | h1
  ·exact h.nn k h1 h0
  ·have:k=j:=by omega
   subst this
   rcases hs with hs | hs
   ·rcases (h.gg k hj).1 hs with h2 | h2
    ·rcases (hI.gg k hj).1 h2 with h3 | ⟨a,ha,h3⟩
     ·rw[h0] at h3;cases h3
     ·have hn:=hI.nn k hj h0 a ha
      obtain⟨ma,a1⟩:=hE a (by omega)
      obtain⟨mi,i1⟩:=hE i (Nat.le_refl _)
      have h4:(E.getD a Za).2.2.1=(G.getD k Za).2.2.1∨(E.getD a Za).2.2.1=Zcm (G.getD k Za).2.2.1:=by
       rcases Decidable.em ((E.getD a Za).2.2.1=(G.getD k Za).2.2.1) with h5 | h5
       ·exact .inl h5
       ·rcases Decidable.em ((E.getD a Za).2.2.1=Zcm (G.getD k Za).2.2.1) with h6 | h6
        ·exact .inr h6
        ·exact absurd (Zfx.2 ⟨h5,h6⟩) h3
      constructor
      ·intro h5
       rcases h4 with h4 | h4
       ·rw[hc a ha (h5.trans h4.symm)];exact hn.1 h4
       ·exact absurd (h5▸h4) (Zgi mi ma i1 a1)
      ·intro h5
       rcases h4 with h4 | h4
       ·exact absurd (h4▸h5) (Zgi ma mi a1 i1)
       ·rw[hc a ha (h5.trans h4.symm)];exact hn.2 h4
    ·omega
   ·have:=Zfx.1 hs
    exact⟨fun h=>absurd h this.1,fun h=>absurd h this.2⟩
 ·rw[h.gg k hk]
  constructor
  ·rintro (h1 | ⟨h1,h2⟩)
   ·exact .inl h1
   ·exact .inr ⟨by omega,h2⟩
  ·rintro (h1 | ⟨h1,h2⟩)
   ·exact .inl h1
   ·rcases Nat.lt_or_ge k j with h3 | h3
    ·exact .inr ⟨h3,h2⟩
    ·have:k=j:=by omega
     subst this
     rcases hs with hs | hs
     ·exact (h.gg k hk).1 hs
     ·exact absurd hs h2
theorem EqR.put{G E:List Zc}{gone0 gone1 gone:List Bool}{i j:Nat}(h:EqR G E gone0 i j gone1 gone)(hj:j < G.length)(hs:ZbB (E.getD i Za) (G.getD j Za)≠0)(hn:0≤(G.getD j Za).2.2.2 - ZbB (E.getD i Za) (G.getD j Za)*(E.getD i Za).2.2.2)(hg:Zbi (E.getD i Za).2.2.1=1):EqR G E gone0 i (j+1) gone1 (gone.set j true):=by
 have hgl:=h.gl
 refine⟨fun k hk h0=>?_,by simpa using hgl,fun k hk=>?_⟩
 ·rcases Nat.lt_or_ge k j with h1 | h1
  ·exact h.nn k h1 h0
  ·have:k=j:=by omega
   subst this
   constructor
   ·intro h5
    rw[Zei.2 h5] at hn;omega
   ·intro h5
    rw[(ZgS hg).2 (by rw[h5,Zdp])] at hn;omega
 ·rw[ZN (by simp;omega)]
  by_cases h1:j=k
  ·subst h1
   rw[List.getElem_set_self]
   exact⟨fun _=>.inr ⟨by omega,hs⟩,fun _=>rfl⟩
  ·rw[List.getElem_set_ne h1,← ZN (d:=false) (show k < gone.length by omega),h.gg k hk]
   exact or_congr Iff.rfl ⟨fun h=>⟨by omega,h.2⟩,fun h=>⟨by omega,h.2⟩⟩
theorem EqI.done{n:Nat}{l G E:List Zc}{gone0 gone:List Bool}(hl:∀ c∈l,Mk n c)(hG:∀ x,x∈G↔Lm l x∧x.1=0)(hp:ZmB (Lm l) G E gone0)(h:EqI G E gone0 E.length gone){m:List Zc}(hm:∀ x,x∈m↔x∈E∨(∃ k,k < G.length∧gone.getD k false=false∧x=G.getD k Za)∨(x∈l∧x.1=2)):¬ Zgd (MM (Lm l))∧∀ x,x∈m↔Zuw (MM (Lm l)) x:=by
 have hMk:∀ c,MM (Lm l) c→c.1=0→c∈G∧¬ Opp (Lm l) c:=fun c hc c0=>by
  rcases hc with ⟨h1,h2⟩ | ⟨d,hd,d0,_,rfl⟩
  ·exact⟨(hG c).2 ⟨h1,c0⟩,h2 c0⟩
  ·have:=(ZdD (hl d hd.1) d0).2
   omega
 have hgk:∀ c,MM (Lm l) c→c.1=0→∃ k,k < G.length∧c=G.getD k Za∧gone0.getD k false=false:=fun c hc c0=>by
  obtain⟨h1,h2⟩:=hMk c hc c0
  obtain⟨k,hk,rfl⟩:=Zb9 (d:=Za) h1
  refine⟨k,hk,rfl,?_⟩
  cases hb:gone0.getD k false with
  | false=>rfl
  | true=>exact absurd ((hp.gg k hk).1 hb) h2
 have hEi:∀ e,MM (Lm l) e→e.1=1→∃ a,a < E.length∧e=E.getD a Za:=fun e he e1=>by
  obtain⟨a,ha,h⟩:=Zb9 (d:=Za) ((hp.ee e).2 ⟨he,e1⟩)
  exact⟨a,ha,h.symm⟩
 refine⟨?_,fun x=>?_⟩
 ·rintro (⟨e,f,he,hf,e1,f1,ef,hk⟩ | ⟨c,e,hc,he,c0,e1,hor⟩)
  ·obtain⟨a,ha,rfl⟩:=hEi e he e1
   obtain⟨b,hb,rfl⟩:=hEi f hf f1
   exact hk (h.cc a b ha hb ef)
  ·obtain⟨a,ha,rfl⟩:=hEi e he e1
   obtain⟨k,hk,rfl,hk0⟩:=hgk c hc c0
   have:=h.nn k hk hk0 a ha
   rcases hor with ⟨h1,h2⟩ | ⟨h1,h2⟩
   ·have:=this.1 h1;omega
   ·have:=this.2 h1;omega
 ·rw[hm]
  constructor
  ·rintro (hx | ⟨k,hk,hg,rfl⟩ | ⟨hx,x2⟩)
   ·obtain⟨h1,h2⟩:=(hp.ee x).1 hx
    exact⟨h1,fun h=>by omega⟩
   ·have h0:¬ (gone0.getD k false=true∨∃ a,a < E.length∧ZbB (E.getD a Za) (G.getD k Za)≠0):=fun h1=>by
     rw[(h.gg k hk).2 h1] at hg;cases hg
    rw[not_or] at h0
    have hgm:=(hG _).1 (Zi (d:=Za) hk)
    refine⟨.inl ⟨hgm.1,fun _ ho=>h0.1 ((hp.gg k hk).2 ho)⟩,fun _ e he e1=>?_⟩
    obtain⟨a,ha,rfl⟩:=hEi e he e1
    have:ZbB (E.getD a Za) (G.getD k Za)=0:=by
     rcases Decidable.em (ZbB (E.getD a Za) (G.getD k Za)=0) with h1 | h1
     ·exact h1
     ·exact absurd ⟨a,ha,h1⟩ h0.2
    exact Zfx.1 this
   ·exact⟨.inl ⟨(Zpd (by omega)).2 hx,fun h=>by omega⟩,fun h=>by omega⟩
  ·rintro⟨hx,hx2⟩
   have hk3:ZgB x.1:=by
    rcases hx with ⟨h1,_⟩ | ⟨d,hd,d0,_,rfl⟩
    ·exact (hl x h1.1).2.1
    ·exact .inr (.inl (ZdD (hl d hd.1) d0).2)
   rcases hk3 with x0 | x1 | x2
   ·obtain⟨k,hk,rfl,hk0⟩:=hgk x hx x0
    refine .inr (.inl ⟨k,hk,?_,rfl⟩)
    cases hb:gone.getD k false with
    | false=>rfl
    | true =>
      rcases (h.gg k hk).1 hb with h1 | ⟨a,ha,h1⟩
      ·rw[hk0] at h1;cases h1
      ·obtain⟨h2,h3⟩:=(hp.ee _).1 (Zi (d:=Za) ha)
       exact absurd (Zfx.2 (hx2 x0 _ h2 h3)) h1
   ·exact .inl ((hp.ee x).2 ⟨hx,x1⟩)
   ·rcases hx with ⟨h1,_⟩ | ⟨d,hd,d0,_,rfl⟩
    ·exact .inr (.inr ⟨h1.1,x2⟩)
    ·have:=(ZdD (hl d hd.1) d0).2
     omega
def ZfK(st:Bool×List Zc×List Zc×List Zc)(r:Zc):Bool×List Zc×List Zc×List Zc :=
 (st.1||!Zd r,if r.1=0 then (st.2.1++[r],st.2.2.1,st.2.2.2) else if r.1=1 then (st.2.1,st.2.2.1++[r],st.2.2.2) else (st.2.1,st.2.2.1,st.2.2.2++[r]))
def Zrs(st:Bool×List Zc×List Zc×List Zc)(c:Zc):Option (Bool×List Zc×List Zc×List Zc) :=
 if (ZbF c).2 < 0 then none else if (ZbF c).2=0 then some (ZfK st (ZbF c).1) else some st
theorem ZfF:∀ (p:List Zc) (st:Bool×List Zc×List Zc×List Zc),p.foldlM Zrs st=if ZaP p then none else some ((Zb3 p).foldl ZfK st)
 | [],st=>by simp[ZaP,Zb3]
 | c::p,st=>by
   rw[List.foldlM_cons]
   simp only[Zrs,ZaP,Zb3,List.map_cons,List.any_cons]
   by_cases h:(ZbF c).2 < 0
   ·simp[h]
   ·have ih:∀ st,p.foldlM Zrs st=if ZaP p then none else some ((Zb3 p).foldl ZfK st):=ZfF p
    unfold ZaP Zb3 at ih
    by_cases h2:(ZbF c).2=0
    ·simp only[if_neg h,if_pos h2,Option.bind_eq_bind,Option.bind_some,ih,decide_eq_false h,Bool.false_or]
     simp[h2]
    ·simp only[if_neg h,if_neg h2,Option.bind_eq_bind,Option.bind_some,ih,decide_eq_false h,Bool.false_or]
     simp[h2]
structure ZtT (l:List Zc) (st:Bool×List Zc×List Zc×List Zc):Prop where
 bad:st.1=l.any fun c=>!Zd c
 ge:∀ x,x∈st.2.1↔x∈l∧x.1=0
 eq:∀ x,x∈st.2.2.1↔x∈l∧x.1=1
 div:∀ x,x∈st.2.2.2↔x∈l∧x.1≠0∧x.1≠1
 len:st.2.1.length+st.2.2.1.length+st.2.2.2.length=l.length
theorem ZqE{l:List Zc}{st:Bool×List Zc×List Zc×List Zc}{r:Zc}(h:ZtT l st):ZtT (l++[r]) (ZfK st r):=by
 have hb:(ZfK st r).1=(l++[r]).any fun c=>!Zd c:=by
  simp only[ZfK,h.bad,List.any_append,List.any_cons,List.any_nil,Bool.or_false]
 have hg:=h.ge
 have hq:=h.eq
 have hd:=h.div
 have hl:=h.len
 unfold ZfK at hb ⊢
 by_cases h0:r.1=0
 ·rw[if_pos h0] at hb ⊢
  refine⟨hb,fun x=>?_,fun x=>?_,fun x=>?_,by simp only[List.length_append,List.length_cons,List.length_nil];omega⟩
  ·simp only[List.mem_append,List.mem_singleton,hg]
   constructor
   ·rintro (h | rfl)
    ·exact⟨.inl h.1,h.2⟩
    ·exact⟨.inr rfl,h0⟩
   ·rintro⟨h1 | h1,h2⟩
    ·exact .inl ⟨h1,h2⟩
    ·exact .inr h1
  ·simp only[List.mem_append,List.mem_singleton,hq]
   constructor
   ·intro h;exact⟨.inl h.1,h.2⟩
   ·rintro⟨h1 | rfl,h2⟩
    ·exact⟨h1,h2⟩
    ·omega
  ·simp only[List.mem_append,List.mem_singleton,hd]
   constructor
   ·intro h;exact⟨.inl h.1,h.2⟩
   ·rintro⟨h1 | rfl,h2⟩
    ·exact⟨h1,h2⟩
    ·exact absurd h0 h2.1
 ·rw[if_neg h0] at hb ⊢
  by_cases h1:r.1=1
  ·rw[if_pos h1] at hb ⊢
   refine⟨hb,fun x=>?_,fun x=>?_,fun x=>?_,by simp only[List.length_append,List.length_cons,List.length_nil];omega⟩
   ·simp only[List.mem_append,List.mem_singleton,hg]
    constructor
    ·intro h;exact⟨.inl h.1,h.2⟩
    ·rintro⟨h1 | rfl,h2⟩
     ·exact⟨h1,h2⟩
     ·exact absurd h2 h0
   ·simp only[List.mem_append,List.mem_singleton,hq]
    constructor
    ·rintro (h | rfl)
     ·exact⟨.inl h.1,h.2⟩
     ·exact⟨.inr rfl,h1⟩
    ·rintro⟨h3 | h3,h2⟩
     ·exact .inl ⟨h3,h2⟩
     ·exact .inr h3
   ·simp only[List.mem_append,List.mem_singleton,hd]
    constructor
    ·intro h;exact⟨.inl h.1,h.2⟩
    ·rintro⟨h3 | rfl,h2⟩
     ·exact⟨h3,h2⟩
     ·exact absurd h1 h2.2
  ·rw[if_neg h1] at hb ⊢
   refine⟨hb,fun x=>?_,fun x=>?_,fun x=>?_,by simp only[List.length_append,List.length_cons,List.length_nil];omega⟩
   ·simp only[List.mem_append,List.mem_singleton,hg]
    constructor
    ·intro h;exact⟨.inl h.1,h.2⟩
    ·rintro⟨h1 | rfl,h2⟩
     ·exact⟨h1,h2⟩
     ·exact absurd h2 h0
   ·simp only[List.mem_append,List.mem_singleton,hq]
    constructor
    ·intro h;exact⟨.inl h.1,h.2⟩
    ·rintro⟨h3 | rfl,h2⟩
     ·exact⟨h3,h2⟩
     ·exact absurd h2 h1
   ·simp only[List.mem_append,List.mem_singleton,hd]
    constructor
    ·rintro (h | rfl)
     ·exact⟨.inl h.1,h.2⟩
     ·exact⟨.inr rfl,h0,h1⟩
    ·rintro⟨h3 | h3,h2⟩
     ·exact .inl ⟨h3,h2⟩
     ·exact .inr h3
theorem ZmT(l:List Zc):ZtT l (l.foldl ZfK (false,[],[],[])):=by
 have key:∀ k,k≤l.length→ZtT (l.take k) ((l.take k).foldl ZfK (false,[],[],[])):=by
  intro k
  induction k with
  | zero=>intro _;exact⟨rfl,by simp,by simp,by simp,rfl⟩
  | succ k ih =>
    intro hk
    rw[Zy Za (show k < l.length by omega),List.foldl_append]
    exact ZqE (ih (by omega))
 have:=key l.length (Nat.le_refl _)
 rwa [List.take_length] at this
theorem Zqc(a b:Zc):ZbB a b=1∨ZbB a b=-1∨ZbB a b=0:=by
 unfold ZbB
 split
 ·exact .inl rfl
 ·split
  ·exact .inr (.inl rfl)
  ·exact .inr (.inr rfl)
theorem ZoD(out:List Zc)(d c:Zc):ZdN (out++[d]) c=ZdN out c++[if d.2.2.1=c.2.2.1 then ZhU d c.2.2.2 else d]:=by simp[ZdN]
theorem Zoa(out:List Zc)(d c:Zc):Zgv (out++[d]) c=(Zgv out c||decide (d.2.2.1=c.2.2.1)):=by simp[Zgv]
theorem ZsG{out:List Zc}{c:Zc}(h:Zgv out c=false):ZdN out c=out:=by
 unfold ZdN
 conv=>rhs;rw[← List.map_id out]
 refine List.map_congr_left fun d hd=>?_
 have:=List.any_eq_false.1 h d hd
 simp only[decide_eq_true_eq] at this
 exact if_neg this
theorem Zko(out:List Zc)(c:Zc):(ZdN out c).length=out.length:=by simp[ZdN]
theorem Zur{α:Type}{u out:List α}{d:α}{j:Nat}(h:u.length=j):(u++out.drop j).getD j d=out.getD j d:=by
 rw[List.getD_eq_getElem?_getD,List.getElem?_append_right (by omega),h,Nat.sub_self,List.getElem?_drop,Nat.add_zero,← List.getD_eq_getElem?_getD]
theorem Zu3{α:Type}{u out:List α}{j:Nat}(h:u.length=j)(hj:j≤out.length):(u++out.drop j).length=out.length:=by
 rw[List.length_append,List.length_drop,h];omega
theorem Zab.spec(p:List Zc)(hp:Zab.pre (p,())):Zab.wp p (fun r=>r=Zab.fn (p,())):=by
 obtain⟨hpB,hdim⟩:Zng p:=hp
 obtain⟨n,hn,hd⟩:∃ n,n≤1048576∧Zda p n:=by
  cases p with
  | nil=>exact⟨0,by omega,by intro c hc;simp at hc⟩
  | cons c p =>
    obtain⟨n,hd⟩:=hdim
    exact⟨n,by have h1:=hd c (by simp);have h2:=(hpB.2 c (by simp)).2.1;omega,hd⟩
 have hl:=hpB.1
 have hQ:Zab.fn (p,())=Z9 p:=rfl
 simp only[Zab.wp,hQ,Zt.fn,Zaq.fn,ZV.fn,Zag.fn]
 refine Lp.foldO p Za Zrs (false,[],[],[]) (by omega) ?_ ?_
 ·rintro i ⟨bad,A,B,D⟩ R e e2 hf ht hR1 hR2
  have hb:=hpB.2 _ (Zi (d:=Za) e)
  have hlen:A.length+B.length+D.length≤i:=by
   rw[ZfF] at ht
   split at ht
   ·cases ht
   ·have:=(ZmT (Zb3 (p.take i))).len
    rw[Option.some.inj ht] at this
    simp only at this
    have h3:=List.length_filter_le (fun r:Zc×Int=>decide (r.2=0)) ((p.take i).map ZbF)
    have h4:(Zb3 (p.take i)).length≤(p.take i).length:=by simp only[Zb3,List.length_map] at *;omega
    rw[List.length_take] at h4
    omega
  simp only[decide_eq_true e2,Int.toNat_natCast,cond_true]
  refine⟨⟨by omega,by omega⟩,hb,?_⟩
  have hst:=Zkm (p.getD i Za)
  have hps:Zrs (bad,A,B,D) (p.getD i Za)=if (ZbF (p.getD i Za)).2 < 0 then none else if (ZbF (p.getD i Za)).2=0 then some (ZfK (bad,A,B,D) (ZbF (p.getD i Za)).1) else some (bad,A,B,D):=rfl
  rw[hps] at hR1 hR2
  generalize hr:ZbF (p.getD i Za)=r at *
  obtain⟨r,s⟩:=r
  simp only at hst hR1 hR2
  rcases hst with rfl | rfl | rfl
  ·simp only[show ((0:Int) == -1)=false from rfl,show ((0:Int) == 1)=false from rfl,cond_false]
   rw[if_neg (by omega),if_pos rfl] at hR1
   refine⟨fun h=>⟨h,trivial⟩,fun h=>⟨h,trivial⟩,fun h=>by rw[h];rfl,?_⟩
   by_cases h0:r.1=0
   ·have hpt:ZfK (bad,A,B,D) r=(bad||!Zd r,A++[r],B,D):=by simp[ZfK,h0]
    simp only[h0,beq_self_eq_true,cond_true]
    rw[hpt] at hR1
    refine⟨⟨by simp;omega,by simp;omega⟩,hf,?_⟩
    have e0:(((0:Int),r.2.1,r.2.2):Zc)=r:=by rw[← h0]
    rw[e0]
    exact hR1 _ rfl
   ·simp only[beq_eq_false_iff_ne.2 h0,cond_false]
    by_cases h1:r.1=1
    ·have hpt:ZfK (bad,A,B,D) r=(bad||!Zd r,A,B++[r],D):=by simp[ZfK,h1]
     simp only[h1,beq_self_eq_true,cond_true]
     rw[hpt] at hR1
     refine⟨⟨by simp;omega,by simp;omega⟩,hf,?_⟩
     have e1:(((1:Int),r.2.1,r.2.2):Zc)=r:=by rw[← h1]
     rw[e1]
     exact hR1 _ rfl
    ·have hpt:ZfK (bad,A,B,D) r=(bad||!Zd r,A,B,D++[r]):=by simp[ZfK,h0,h1]
     simp only[beq_eq_false_iff_ne.2 h1,cond_false]
     rw[hpt] at hR1
     exact⟨⟨by simp;omega,by simp;omega⟩,hf,hR1 _ rfl⟩
  ·simp only[show ((1:Int) == -1)=false from rfl,beq_self_eq_true,cond_false,cond_true]
   exact⟨hf,hR1 _ rfl⟩
  ·simp only[beq_self_eq_true,cond_true]
   have:=hR2 rfl
   rw[ZfF] at this
   rw[Zcv]
   cases hv:ZaP p with
   | true=>rfl
   | false=>rw[hv] at this;cases this
 rintro⟨bad,A,B,D⟩ R hraws
 rw[ZfF] at hraws
 have hv:ZaP p=false:=by
  cases h:ZaP p with
  | true=>rw[h] at hraws;cases hraws
  | false=>rfl
 rw[hv] at hraws
 simp only[Bool.false_eq_true,if_false,Option.some.injEq] at hraws
 have hpart:=ZmT (Zb3 p)
 rw[hraws] at hpart
 clear hraws
 obtain⟨hbad,hA,hB,hD,hlen⟩:=hpart
 simp only at hbad hA hB hD hlen
 obtain⟨hs1,hs2⟩:=Zea hpB hd hv
 have hMk:=ZjH hpB hd
 have hlB:=Zpl hpB
 rw[← hbad] at hs2
 generalize Zb3 p=l at *
 generalize Z9 p=T at *
 have hll:=hlB.1
 have hlm:∀ c∈l,c.2.2.1.length=n∧Zdd c.2.2.1∧ZeD c.2.2.2:=fun c hc=>⟨(hMk c hc).1.1,Zc3 (hlB.2 c hc).2,(hlB.2 c hc).2.2.2⟩
 simp only[Int.lt_irrefl,decide_false,cond_false]
 have hAM:∀ c∈A,Mk n c∧c.1=0:=fun c hc=>⟨hMk c ((hA c).1 hc).1,((hA c).1 hc).2⟩
 refine Lp.iter A.length (fun i y=>∃ out,y=((i:Int),out)∧(∀ x,x∈out↔Lm (A.take i) x)∧out.length≤i) ⟨[],rfl,by simp[Lm],by simp⟩ ?_
 rintro i y hile ⟨out,rfl,hout,hol⟩ R hR
 by_cases e:i < A.length
 ·have hcm:=Zi (d:=Za) e
  have hts:=Zy Za e
  obtain⟨hcM,hc0⟩:=hAM _ hcm
  have hcl:=hlm _ ((hA _).1 hcm).1
  have hoA:∀ d∈out,d.2.2.1.length=n:=fun d hd=>(hAM d (List.mem_of_mem_take ((hout d).1 hd).1)).1.1.1
  have hnew:=ZmD (fun d hd=>hAM d (List.mem_of_mem_take hd)) hcM hc0 hout
  rw[← hts] at hnew
  simp only[decide_eq_true (show (i:Int) < (A.length:Int) by omega),Int.toNat_natCast,cond_true]
  refine⟨⟨by omega,by omega⟩,e,?_⟩
  refine Lp.iter out.length (fun j y=>y=((j:Int),Zgv (out.take j) (A.getD i Za),ZdN (out.take j) (A.getD i Za)++out.drop j)) (by simp[Zgv,ZdN]) ?_
  rintro j y hjle rfl R' hR'
  have hml:(ZdN (out.take j) (A.getD i Za)).length=j:=by rw[Zko];simp;omega
  by_cases e2:j < out.length
  ·have hts2:=Zy Za e2
   have hget:=Zur (d:=Za) (out:=out) hml
   have hlen2:=Zu3 (out:=out) hml hjle
   have hdl:=hoA _ (Zi (d:=Za) e2)
   simp only[decide_eq_true (show (j:Int) < (out.length:Int) by omega),Int.toNat_natCast,cond_true,hget,hlen2]
   refine⟨⟨by omega,by omega⟩,e2,⟨hdl.trans hcl.1.symm,by show (out.getD j Za).2.2.1.length≤_;omega,hcl.2.1⟩,?_⟩
   have hnext:=hR' e2
   rw[hts2,Zoa,ZoD] at hnext
   by_cases h1:(out.getD j Za).2.2.1=(A.getD i Za).2.2.1
   ·rw[Zei.2 h1]
    rw[if_pos h1,decide_eq_true h1,Bool.or_true] at hnext
    refine⟨⟨by omega,by omega⟩,e2,⟨by omega,by omega⟩,e2,⟨by omega,by omega⟩,hnext _ ?_⟩
    have hset:(ZdN (out.take j) (A.getD i Za)++out.drop j).set j (ZhU (out.getD j Za) (A.getD i Za).2.2.2)=ZdN (out.take j) (A.getD i Za)++[ZhU (out.getD j Za) (A.getD i Za).2.2.2]++out.drop (j+1):=by
     rw[List.set_append_right _ _ (by omega),hml,Nat.sub_self,List.drop_eq_getElem_cons e2,List.set_cons_zero,List.append_assoc];rfl
    exact congrArg (fun z=>((j:Int)+1,true,z)) hset
   ·have hs0:ZbB (out.getD j Za) (A.getD i Za)≠1:=fun h=>h1 (Zei.1 h)
    rw[beq_eq_false_iff_ne.2 hs0]
    rw[if_neg h1,decide_eq_false h1,Bool.or_false] at hnext
    refine⟨⟨by omega,by omega⟩,hnext _ ?_⟩
    rw[List.append_assoc,List.singleton_append,ZN e2,← List.drop_eq_getElem_cons e2]
    rfl
  ·have:j=out.length:=by omega
   subst this
   simp only[Int.lt_irrefl,decide_false,cond_false,List.take_length,List.drop_length,List.append_nil]
   unfold Zl9 at hnew
   cases hh:Zgv out (A.getD i Za) with
   | true =>
     rw[hh] at hnew
     simp only[Bool.not_true,cond_false]
     refine⟨⟨by omega,by omega⟩,hR e _ ⟨_,rfl,hnew,by rw[Zko];omega⟩⟩
   | false =>
     rw[hh] at hnew
     simp only[Bool.not_false,cond_true,ZsG hh]
     exact⟨⟨by simp;omega,by simp;omega⟩,⟨by omega,by omega⟩,hR e _ ⟨_,rfl,hnew,by simp;omega⟩⟩
 have hiA:i=A.length:=by omega
 subst hiA
 clear hR hile e
 simp only[Int.lt_irrefl,decide_false,cond_false,Int.toNat_natCast]
 rw[List.take_length] at hout
 have hGm:∀ x,x∈out↔Lm l x∧x.1=0:=fun x=>by
  rw[hout]
  constructor
  ·intro h
   have h0:x.1=0:=((hA x).1 h.1).2
   refine⟨⟨((hA x).1 h.1).1,fun _ d hd hd0 hd1=>h.2 h0 d ((hA d).2 ⟨hd,hd0⟩) hd0 hd1⟩,h0⟩
  ·rintro⟨h,h0⟩
   exact⟨(hA x).2 ⟨h.1,h0⟩,fun _ d hd hd0 hd1=>h.2 h0 d ((hA d).1 hd).1 hd0 hd1⟩
 clear hout
 generalize out=G at *
 have hGl:G.length≤1048576:=by omega
 have hGi:∀ k,k < G.length→Mk n (G.getD k Za)∧(G.getD k Za).1=0∧Lm l (G.getD k Za)∧(G.getD k Za).2.2.1.length=n∧Zdd (G.getD k Za).2.2.1∧ZeD (G.getD k Za).2.2.2∧condB (G.getD k Za):=fun k hk=>by
  have h1:=(hGm _).1 (Zi (d:=Za) hk)
  have h2:=hlm _ h1.1.1
  exact⟨hMk _ h1.1.1,h1.2,h1.1,h2.1,h2.2.1,h2.2.2,hlB.2 _ h1.1.1⟩
 refine⟨⟨by omega,by omega,by omega,by omega⟩,?_⟩
 have hNN:∀ i,i≤G.length→i*G.length≤1048576*1048576:=fun i hi=>Nat.mul_le_mul (by omega) hGl
 refine Lp.iter G.length (fun i y=>∃ E gone,y=((i:Int),E,gone)∧ZfG G B i (i+1) E gone∧E.length≤B.length+i*G.length) ⟨B,_,rfl,ZfG.nil G B,by simp⟩ ?_
 rintro i y hile ⟨E,gone,rfl,hI,hEl⟩ R hR
 by_cases e:i < G.length
 ·obtain⟨hiM,hi0,hiL,hin,hii,hik,hib⟩:=hGi i e
  simp only[decide_eq_true (show (i:Int) < (G.length:Int) by omega),Int.toNat_natCast,cond_true]
  refine⟨⟨by omega,by omega⟩,e,⟨by omega,by omega⟩,?_⟩
  refine Lp.iter (G.length - (i+1)) (fun m y=>∃ E' gone',y=((i:Int)+1+m,E',gone')∧ZfG G B i (i+1+m) E' gone'∧E'.length≤B.length+i*G.length+m) ⟨E,gone,by simp,hI,by omega⟩ ?_
  rintro m y hmle ⟨E',gone',rfl,hI',hEl'⟩ R' hR'
  have hNi:=hNN i (by omega)
  by_cases e2:m < G.length - (i+1)
  ·have ej:i+1+m < G.length:=by omega
   obtain⟨hjM,hj0,hjL,hjn,hji,hjk,hjb⟩:=hGi (i+1+m) ej
   have htn:((i:Int)+1+m).toNat=i+1+m:=by omega
   have hgl:=hI'.gl
   simp only[decide_eq_true (show (i:Int)+1+m < (G.length:Int) by omega),htn,cond_true]
   unfold ZeD at hik hjk
   refine⟨⟨by omega,by omega⟩,ej,⟨hin.trans hjn.symm,by show (G.getD i Za).2.2.1.length≤_;omega,hji⟩,?_⟩
   by_cases hs:ZbB (G.getD i Za) (G.getD (i+1+m) Za)=-1
   ·simp only[hs,bne_self_eq_false,cond_false]
    refine⟨⟨by omega,by omega⟩,?_⟩
    have hvoid:(G.getD i Za).2.2.2+(G.getD (i+1+m) Za).2.2.2 < 0→T=([],true,0):=fun h=>hs1 (.inl ⟨_,_,hiL,hjL,hi0,hj0,(ZgS (hiM.gcd hi0)).1 hs,h⟩)
    by_cases h1:(G.getD i Za).2.2.2+(G.getD (i+1+m) Za).2.2.2 < 0
    ·simp only[decide_eq_true h1,cond_true]
     exact (hvoid h1).symm
    ·simp only[decide_eq_false h1,cond_false]
     refine⟨⟨by omega,by omega⟩,?_⟩
     by_cases h2:(G.getD i Za).2.2.2+(G.getD (i+1+m) Za).2.2.2=0
     ·simp only[h2,beq_self_eq_true,cond_true]
      have hput:=hI'.put (by omega) ej ⟨hs,h2⟩
      refine⟨⟨by omega,by omega⟩,by omega,⟨by omega,by simp;omega⟩,by simp;omega,⟨.inr (.inl rfl),hib.2⟩,⟨by simp;omega,by simp;omega⟩,⟨by omega,by omega⟩,hR' e2 _ ⟨_,_,?_,hput,by simp;omega⟩⟩
      exact congrArg (fun z:Int=>(z,E'++[ZlC (G.getD i Za)],(gone'.set i true).set (i+1+m) true)) (by omega)
     ·simp only[beq_eq_false_iff_ne.2 h2,cond_false]
      have hskip:=hI'.skip (by omega) ej fun _=>by omega
      refine⟨⟨by omega,by omega⟩,hR' e2 _ ⟨_,_,?_,hskip,by omega⟩⟩
      exact congrArg (fun z:Int=>(z,E',gone')) (by omega)
   ·simp only[bne_iff_ne.2 hs,cond_true]
    have hskip:=hI'.skip (by omega) ej fun h=>absurd h hs
    refine⟨⟨by omega,by omega⟩,hR' e2 _ ⟨_,_,?_,hskip,by omega⟩⟩
    exact congrArg (fun z:Int=>(z,E',gone')) (by omega)
  ·have hm:i+1+m=G.length:=by omega
   rw[hm] at hI'
   simp only[decide_eq_false (show ¬ (i:Int)+1+m < (G.length:Int) by omega),cond_false]
   refine⟨⟨by omega,by omega⟩,hR e _ ⟨_,_,rfl,hI'.row,?_⟩⟩
   rw[Nat.succ_mul];omega
 have hiG:i=G.length:=by omega
 subst hiG
 clear hR hile e
 simp only[Int.lt_irrefl,decide_false,cond_false,Int.toNat_natCast]
 have hP:=hI.done hMk hGm hB
 have hNi:=hNN G.length (Nat.le_refl _)
 have hEB:E.length≤1048576+1099511627776:=by omega
 clear hI hEl
 have hEi:∀ k,k < E.length→Mk n (E.getD k Za)∧(E.getD k Za).1=1∧MM (Lm l) (E.getD k Za)∧(E.getD k Za).2.2.1.length=n∧Zdd (E.getD k Za).2.2.1∧ZeD (E.getD k Za).2.2.2:=fun k hk=>by
  have h1:=(hP.ee _).1 (Zi (d:=Za) hk)
  have h3:Mk n (E.getD k Za)∧condB (E.getD k Za):=by
   rcases h1.1 with ⟨h2,_⟩ | ⟨c,hc,c0,_,h2⟩
   ·exact⟨hMk _ h2.1,hlB.2 _ h2.1⟩
   ·rw[h2];exact⟨(ZdD (hMk c hc.1) c0).1,Zwg (hlB.2 c hc.1).2⟩
  exact⟨h3.1,h1.2,h1.1,h3.1.1.1,Zc3 h3.2.2,h3.2.2.2.2⟩
 refine Lp.iter E.length (fun i y=>∃ gone',y=((i:Int),gone')∧EqI G E gone i gone') ⟨gone,rfl,EqI.nil hP.gl⟩ ?_
 rintro i y hile ⟨gone1,rfl,hI⟩ R hR
 by_cases e:i < E.length
 ·obtain⟨hiM,hi1,hiL,hin,hii,hik⟩:=hEi i e
  have hgl:=hI.gl
  simp only[decide_eq_true (show (i:Int) < (E.length:Int) by omega),Int.toNat_natCast,cond_true]
  refine⟨⟨by omega,by omega⟩,e,⟨by omega,by omega⟩,?_⟩
  refine Lp.iter i (fun j y=>y=(j:Int)∧∀ a,a < j→(E.getD i Za).2.2.1=(E.getD a Za).2.2.1→(E.getD i Za).2.2.2=(E.getD a Za).2.2.2) ⟨rfl,fun a ha=>absurd ha (by omega)⟩ ?_
  rintro j y hjle ⟨rfl,hj⟩ R2 hR2
  by_cases e2:j < i
  ·obtain⟨hjM,hj1,hjL,hjn,hji,hjk⟩:=hEi j (by omega)
   simp only[decide_eq_true (show (j:Int) < (i:Int) by omega),Int.toNat_natCast,cond_true,Nat.zero_add]
   refine⟨⟨by omega,by omega,by omega⟩,by omega,⟨hin.trans hjn.symm,by show (E.getD i Za).2.2.1.length≤_;omega,hji⟩,fun h=>⟨h,trivial⟩,fun h=>⟨h,trivial⟩,fun h=>⟨h,trivial⟩,fun h=>⟨h,trivial⟩,fun h=>⟨h,h,trivial⟩,fun h=>h,?_⟩
   by_cases hs:(E.getD i Za).2.2.1=(E.getD j Za).2.2.1
   ·rw[Zei.2 hs]
    by_cases hk:(E.getD i Za).2.2.2=(E.getD j Za).2.2.2
    ·simp only[hk,bne_self_eq_false,Bool.and_false,cond_false]
     refine⟨⟨by omega,by omega⟩,hR2 e2 _ ⟨rfl,fun a ha h=>?_⟩⟩
     by_cases haj:a=j
     ·subst haj;exact hk
     ·exact hj a (by omega) h
    ·simp only[bne_iff_ne.2 hk,beq_self_eq_true,Bool.and_true,cond_true]
     exact (hs1 (.inr (.inl ⟨_,_,hiL,hjL,hi1,hj1,hs,hk⟩))).symm
   ·have hs0:ZbB (E.getD i Za) (E.getD j Za)≠1:=fun h=>hs (Zei.1 h)
    simp only[beq_eq_false_iff_ne.2 hs0,Bool.false_and,cond_false]
    refine⟨⟨by omega,by omega⟩,hR2 e2 _ ⟨rfl,fun a ha h=>?_⟩⟩
    by_cases haj:a=j
    ·subst haj;exact absurd h hs
    ·exact hj a (by omega) h
  ·have hji:j=i:=by omega
   subst hji
   simp only[Int.lt_irrefl,decide_false,cond_false]
   refine Lp.iter G.length (fun k y=>∃ gone',y=((k:Int),gone')∧EqR G E gone j k gone1 gone') ⟨gone1,rfl,EqR.nil hgl⟩ ?_
   rintro k y hkle ⟨gone',rfl,hr⟩ R3 hR3
   have hgl':=hr.gl
   by_cases e3:k < G.length
   ·obtain⟨hkM,hk0,hkL,hkn,hki,hkk,hkb⟩:=hGi k e3
    simp only[decide_eq_true (show (k:Int) < (G.length:Int) by omega),Int.toNat_natCast,cond_true]
    refine⟨⟨by omega,by omega⟩,e3,⟨by omega,by omega⟩,by omega,fun h=>⟨h,h,⟨hin.trans hkn.symm,by show (E.getD j Za).2.2.1.length≤_;omega,hki⟩⟩,fun h=>⟨h,trivial⟩,fun h=>by rw[h];rfl,?_⟩
    have hEM:∀ a,a≤j→Mk n (E.getD a Za)∧(E.getD a Za).1=1:=fun a ha=>⟨(hEi a (by omega)).1,(hEi a (by omega)).2.1⟩
    by_cases hskip:gone'.getD k false=true∨ZbB (E.getD j Za) (G.getD k Za)=0
    ·have hb:(gone'.getD k false||(ZbB (E.getD j Za) (G.getD k Za) == 0))=true:=by
      rcases hskip with h | h
      ·rw[h,Bool.true_or]
      ·rw[h,beq_self_eq_true,Bool.or_true]
     rw[hb]
     exact⟨⟨by omega,by omega⟩,hR3 e3 _ ⟨_,rfl,EqR.skip hEM hI hj hr e3 hskip⟩⟩
    ·rw[not_or] at hskip
     have hg0:gone'.getD k false=false:=by simpa using hskip.1
     simp only[hg0,beq_eq_false_iff_ne.2 hskip.2,Bool.or_self,cond_false]
     unfold ZeD at hik hkk
     have hsv:=Zqc (E.getD j Za) (G.getD k Za)
     have hmul:∀ s:Int,(s=1∨s=-1∨s=0)→Zm .i64 (s*(E.getD j Za).2.2.2)∧Zm .i64 ((G.getD k Za).2.2.2 - s*(E.getD j Za).2.2.2):=fun s hs=>by
      rcases hs with rfl | rfl | rfl
      ·exact⟨⟨by omega,by omega⟩,⟨by omega,by omega⟩⟩
      ·exact⟨⟨by omega,by omega⟩,⟨by omega,by omega⟩⟩
      ·exact⟨⟨by omega,by omega⟩,⟨by omega,by omega⟩⟩
     refine⟨⟨hin.trans hkn.symm,by show (E.getD j Za).2.2.1.length≤_;omega,hki⟩,(hmul _ hsv).1,(hmul _ hsv).2,?_⟩
     have hng:gone.getD k false=false∧∀ a,a < j→ZbB (E.getD a Za) (G.getD k Za)=0:=by
      have h1:¬ (gone1.getD k false=true):=fun h=>by
       have:=(hr.gg k e3).2 (.inl h)
       rw[hg0] at this;cases this
      have h2:¬ (gone.getD k false=true∨∃ a,a < j∧ZbB (E.getD a Za) (G.getD k Za)≠0):=fun h=>h1 ((hI.gg k e3).2 h)
      rw[not_or] at h2
      refine⟨by simpa using h2.1,fun a ha=>?_⟩
      rcases Decidable.em (ZbB (E.getD a Za) (G.getD k Za)=0) with h3 | h3
      ·exact h3
      ·exact absurd ⟨a,ha,h3⟩ h2.2
     have hkMM:MM (Lm l) (G.getD k Za):=.inl ⟨hkL,fun _ ho=>by
      have:=(hP.gg k e3).2 ho
      rw[hng.1] at this;cases this⟩
     by_cases hneg:(G.getD k Za).2.2.2 - ZbB (E.getD j Za) (G.getD k Za)*(E.getD j Za).2.2.2 < 0
     ·simp only[decide_eq_true hneg,cond_true]
      refine (hs1 (.inr (.inr ⟨_,_,hkMM,hiL,hk0,hi1,?_⟩))).symm
      rcases hsv with h1 | h1 | h1
      ·rw[h1] at hneg
       exact .inl ⟨Zei.1 h1,by omega⟩
      ·rw[h1] at hneg
       have h2:=(ZgS (hiM.1.2.1 (by omega))).1 h1
       exact .inr ⟨by rw[h2,Zdp],by omega⟩
      ·exact absurd h1 hskip.2
     ·simp only[decide_eq_false hneg,cond_false]
      exact⟨⟨by omega,by omega⟩,by omega,⟨by omega,by omega⟩,hR3 e3 _ ⟨_,rfl,hr.put e3 hskip.2 (by omega) (hiM.1.2.1 (by omega))⟩⟩
   ·have hkG:k=G.length:=by omega
    subst hkG
    simp only[Int.lt_irrefl,decide_false,cond_false]
    exact⟨⟨by omega,by omega⟩,hR e _ ⟨_,rfl,hI.row hj hr⟩⟩
 have hiE:i=E.length:=by omega
 subst hiE
 clear hR hile e
 simp only[Int.lt_irrefl,decide_false,cond_false]
 have hgl:=hI.gl
 refine Lp.iter G.length (fun i y=>∃ out,y=((i:Int),out)∧(∀ x,x∈out↔x∈E∨∃ k,k < i∧gone1.getD k false=false∧x=G.getD k Za)∧out.length≤E.length+i) ⟨E,rfl,fun x=>⟨.inl,fun h=>h.elim id fun ⟨k,hk,_⟩=>absurd hk (by omega)⟩,by omega⟩ ?_
 rintro i y hile ⟨out,rfl,hout,hol⟩ R hR
 by_cases e:i < G.length
 ·simp only[decide_eq_true (show (i:Int) < (G.length:Int) by omega),Int.toNat_natCast,cond_true]
  refine⟨⟨by omega,by omega⟩,e,⟨by omega,by omega⟩,by omega,?_⟩
  cases hg:gone1.getD i false with
  | false =>
    simp only[Bool.not_false,cond_true]
    refine⟨⟨by simp;omega,by simp;omega⟩,⟨by omega,by omega⟩,hR e _ ⟨_,rfl,fun x=>?_,by simp;omega⟩⟩
    rw[List.mem_append,List.mem_singleton,hout,or_assoc]
    refine or_congr Iff.rfl ⟨?_,?_⟩
    ·rintro (⟨k,hk,h⟩ | rfl)
     ·exact⟨k,by omega,h⟩
     ·exact⟨i,by omega,hg,rfl⟩
    ·rintro⟨k,hk,h1,h2⟩
     rcases Nat.lt_or_ge k i with h3 | h3
     ·exact .inl ⟨k,h3,h1,h2⟩
     ·have:k=i:=by omega
      subst this
      exact .inr h2
  | true =>
    simp only[Bool.not_true,cond_false]
    refine⟨⟨by omega,by omega⟩,hR e _ ⟨_,rfl,fun x=>?_,by omega⟩⟩
    rw[hout]
    refine or_congr Iff.rfl ⟨?_,?_⟩
    ·rintro⟨k,hk,h⟩
     exact⟨k,by omega,h⟩
    ·rintro⟨k,hk,h1,h2⟩
     rcases Nat.lt_or_ge k i with h3 | h3
     ·exact⟨k,h3,h1,h2⟩
     ·have:k=i:=by omega
      subst this
      rw[hg] at h1;cases h1
 have hiG:i=G.length:=by omega
 subst hiG
 simp only[Int.lt_irrefl,decide_false,cond_false]
 have hmem:∀ x,x∈out++D↔x∈E∨(∃ k,k < G.length∧gone1.getD k false=false∧x=G.getD k Za)∨(x∈l∧x.1=2):=fun x=>by
  rw[List.mem_append,hout,or_assoc]
  refine or_congr Iff.rfl (or_congr Iff.rfl ?_)
  rw[hD]
  constructor
  ·rintro⟨h1,h2,h3⟩
   rcases (hMk x h1).2.1 with h | h | h
   ·exact absurd h h2
   ·exact absurd h h3
   ·exact⟨h1,h⟩
  ·rintro⟨h1,h2⟩;exact⟨h1,by omega,by omega⟩
 obtain⟨hnv2,hfin⟩:=hI.done hMk hGm hP hmem
 have hT:=hs2 hP.nv hnv2 _ hfin
 have hdims:Zda (out++D) n:=fun x hx=>by
  rcases (hmem x).1 hx with h | ⟨k,hk,_,rfl⟩ | ⟨h,_⟩
  ·obtain⟨k,hk,rfl⟩:=Zb9 (d:=Za) h
   exact (hEi k hk).2.2.2.1
  ·exact (hGi k hk).2.2.2.1
  ·exact (hlm x h).1
 refine⟨⟨by omega,by omega⟩,⟨by show (out++D).length≤_;simp only[List.length_append];omega,n,hn,hdims⟩,fun h=>⟨h,trivial⟩,fun h=>⟨h,trivial⟩,fun h=>by rw[h];rfl,?_⟩
 rw[hT]
 have e1:decide ((96:Int) < ((Za8 (out++D)).length:Int))=decide (96 < (Za8 (out++D)).length):=decide_eq_decide.2 (by omega)
 rw[e1]
 cases (bad||decide (96 < (Za8 (out++D)).length))<;>rfl
end Go.Proofs.YtgpdnmfpgkkgcaaGreatDoor
