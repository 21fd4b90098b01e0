/- Part of a proof that a law of the program holds for every input: what the functions answer, in plain Lean. No conditions. -/
import Derived.Test.YtgpdnmfpgkkgcaaGreatDoorP12
namespace Go.Proofs.YtgpdnmfpgkkgcaaGreatDoor
open Go
set_option linter.unusedVariables false
theorem ZkM{n:Int}(h1:-9223372036854775808≤n)(h2:n≤9223372036854775807):IntKind.wrap .i64 n=n:=by
 simp[IntKind.wrap,IntKind.bits,IntKind.signed]
 omega
theorem ZnN(l:List ZbZ)(s:ZbZ):ZkT (l++[s])=IntKind.wrap .i64 (ZkT l+(s.2.length:Int)):=by simp[ZkT]
theorem Z2.spec(n m:Int)(l:List ZbZ)(hl:l.length≤9223372036854775807)(hs:∀ s∈l,s.2.length≤9223372036854775807):Z2.wp n m l (fun r=>r=Z2.fn (n,m,l,())):=by
 have hfn:Z2.fn (n,m,l,())=(ZkX m l&&decide (ZkT l≤n)):=rfl
 simp only[Z2.wp,hfn]
 refine Lp.iter l.length (fun i y=>y=((i:Int),ZkT (l.take i))∧ZkX m (l.take i)=true) ⟨rfl,rfl⟩ ?_
 rintro i y hle ⟨rfl,hf⟩ R hR
 by_cases e:i < l.length
 ·have hts:=Zy ((0,[]):ZbZ) e
  have hsl:=hs _ (Zi (d:=((0,[]):ZbZ)) e)
  simp only[decide_eq_true (show (i:Int) < (l.length:Int) by omega),Int.toNat_natCast,cond_true]
  refine⟨⟨by omega,by omega⟩,?_⟩
  have hall:ZkX m l=true→∀ p∈(l.getD i (0,[])).2,(p.length:Int)≤m:=fun h p hp=>by
   have:=List.all_eq_true.1 h _ (Zi (d:=((0,[]):ZbZ)) e)
   have:=List.all_eq_true.1 this p hp
   simpa using this
  refine Lp.iter (l.getD i (0,[])).2.length (fun j y=>y=(j:Int)∧∀ k,k < j→((((l.getD i (0,[])).2.getD k []).length:Nat):Int)≤m) ⟨rfl,fun k hk=>absurd hk (by omega)⟩ ?_
  rintro j y hjle ⟨rfl,hj⟩ R' hR'
  by_cases e2:j < (l.getD i (0,[])).2.length
  ·simp only[decide_eq_true (show (j:Int) < ((l.getD i (0,[])).2.length:Int) by omega),Int.toNat_natCast,cond_true]
   refine⟨⟨by omega,by omega⟩,?_⟩
   by_cases h1:m < ((((l.getD i (0,[])).2.getD j []).length:Nat):Int)
   ·simp only[decide_eq_true h1,cond_true]
    cases hfl:ZkX m l with
    | false=>rfl
    | true=>have:=hall hfl _ (Zi (d:=[]) e2);omega
   ·simp only[decide_eq_false h1,cond_false]
    rw[ZkM (by omega) (by omega)]
    refine hR' e2 _ ⟨rfl,fun k hk=>?_⟩
    by_cases hkj:k=j
    ·subst hkj;omega
    ·exact hj k (by omega)
  ·have:j=(l.getD i (0,[])).2.length:=by omega
   subst this
   simp only[Int.lt_irrefl,decide_false,cond_false]
   rw[ZkM (n:=(i:Int)+1) (by omega) (by omega)]
   refine hR e _ ⟨?_,?_⟩
   ·rw[hts,ZnN];rfl
   ·rw[hts]
    unfold ZkX at hf ⊢
    rw[List.all_append,hf]
    simp only[List.all_cons,List.all_nil,Bool.and_true,Bool.true_and,List.all_eq_true,decide_eq_true_eq]
    intro p hp
    obtain⟨k,hk,rfl⟩:=Zb9 (d:=[]) hp
    exact hj k hk
 ·have:i=l.length:=by omega
  subst this
  rw[List.take_length] at hf ⊢
  simp only[Int.lt_irrefl,decide_false,cond_false,hf,Bool.true_and]
theorem ZJ.spec(x:ZbZ)(hl:x.2.length≤9223372036854775807):ZJ.wp x (fun r=>r=ZJ.fn (x,())):=by
 obtain⟨n,ps⟩:=x
 simp only[ZJ.wp,ZJ.fn,Zaq.fn]
 have hg:∀ b:Bool,(b=true→b=true∧True):=fun b h=>⟨h,trivial⟩
 have hn:∀ b:Bool,(b=false→(!b)=true):=fun b h=>by rw[h];rfl
 refine⟨hg _,hg _,hn _,hg _,hg _,hg _,hn _,?_⟩
 by_cases h1:n < 0
 ·simp[h1,Zr,show ¬ 0≤n by omega]
 by_cases h2:12 < n
 ·simp[h1,h2,Zr,show ¬ n≤12 by omega]
 by_cases h3:(400:Int) < (ps.length:Int)
 ·simp only[decide_eq_true h3,Bool.or_true,cond_true]
  simp[Zr,show ¬ ((ps.length:Int)≤400) by omega]
 rw[decide_eq_false h1,decide_eq_false h2,decide_eq_false h3]
 have hv:∀ b,ps.all (fun p=>decide ((p.length:Int)≤96)&&Zmc p n)=b→Zr (n,ps)=b:=fun b h=>by
  simp only[Zr,h]
  rw[decide_eq_true (show (0:Int)≤n by omega),decide_eq_true (show n≤12 by omega),decide_eq_true (show (ps.length:Int)≤400 by omega)]
  rfl
 refine Lp.all ps [] (fun p=>decide ((p.length:Int)≤96)&&Zmc p n) hl (fun i R hi hi' hf ht hff=>?_) (fun R h=>?_)
 ·simp only[decide_eq_true hi',Int.toNat_natCast]
  refine⟨⟨by omega,hi'⟩,?_⟩
  by_cases h4:(96:Int) < ((ps.getD i []).length:Int)
  ·simp only[decide_eq_true h4,cond_true]
   exact (hv false (hff (by rw[decide_eq_false (show ¬ (((ps.getD i []).length:Int)≤96) by omega)];rfl))).symm
  ·simp only[decide_eq_false h4,cond_false]
   have h5:decide (((ps.getD i []).length:Int)≤96)=true:=decide_eq_true (by omega)
   rw[h5,Bool.true_and] at ht hff
   refine Lp.all (ps.getD i []) Za (fun c=>Zd c&&((c.2.2.1.length:Int) == n)) (by omega) (fun j R' hj hj' hf' ht' hff'=>?_) (fun R' h'=>?_)
   ·simp only[decide_eq_true hj',Int.toNat_natCast,cond_true]
    refine⟨⟨by omega,by omega⟩,hg _,hg _,hg _,hg _,fun h=>⟨h,h,trivial⟩,fun h=>by rw[h];rfl,?_⟩
    have hb:((!Zd ((ps.getD i []).getD j Za))||((((ps.getD i []).getD j Za).2.2.1.length:Int) != n))=!(Zd ((ps.getD i []).getD j Za)&&((((ps.getD i []).getD j Za).2.2.1.length:Int) == n)):=by
     rw[Bool.not_and];rfl
    rw[hb]
    by_cases h6:(Zd ((ps.getD i []).getD j Za)&&((((ps.getD i []).getD j Za).2.2.1.length:Int) == n))=true
    ·have:=ht' h6
     rw[h6]
     exact⟨hf',this⟩
    ·rw[Bool.not_eq_true] at h6
     have:=hff' h6
     rw[h6]
     exact (hv false (hff this)).symm
   ·simp only[Int.lt_irrefl,decide_false,cond_false]
    exact⟨hf,ht h'⟩
 ·simp only[Int.lt_irrefl,decide_false,cond_false]
  exact (hv true h).symm
set_option maxRecDepth 4000
def Zdg(C:List Int)(i:Nat):List Int:=C.take i++C.drop (i+1)
abbrev Zn.fn(x:Lin×Int×Unit):Lin:=(Zdg x.1.1 x.2.1.toNat,x.1.2)
abbrev Zn.pre(x:Lin×Int×Unit):Prop:=x.1.1.length≤1048576∧0≤x.2.1∧x.2.1 < (x.1.1.length:Int)
def Zn.wp(x0:Lin)(x1:Int)(Q:Lin→Prop):Prop:=Lp (σ:=Int×Int×List Int) (fun y3 R3=>let v0:=List.getD x0.1 (Int.toNat y3.1) (0:Int);cond (decide (y3.1 < ((List.length x0.1:Nat):Int))) (((0:Int)≤y3.1∧y3.1 < ((List.length x0.1:Nat):Int))∧cond (y3.1 != x1) ((((List.length y3.2.2+List.length [v0])*8)≤140737488355328∧(List.length y3.2.2+List.length [v0])≤9223372036854775807)∧(Zm IntKind.i64 (y3.1+(1:Int))∧R3 ((y3.1+(1:Int)),(y3.2.1,(y3.2.2++[v0]))))) (Zm IntKind.i64 (y3.1+(1:Int))∧R3 ((y3.1+(1:Int)),y3.2))) (Q (y3.2.2,y3.2.1))) ((0:Int),(x0.2,([]:List Int)))
theorem Zfj{α β:Type}{l:List α}{f:α→β}{d:α}{e:β}{i:Nat}(h:i < l.length):(l.map f).getD i e=f (l.getD i d):=by
 simp[List.getD_eq_getElem?_getD,h]
theorem Zij{C:List Int}{i:Nat}(h:i < C.length):(Zdg C i).length=C.length - 1:=by unfold Zdg;simp;omega
theorem ZoN{C:List Int}{i:Nat}{n:Int}(h:n∈Zdg C i):n∈C:=by
 unfold Zdg at h
 rcases List.mem_append.1 h with h | h
 ·exact List.mem_of_mem_take h
 ·exact List.mem_of_mem_drop h
theorem Zsw{C:List Int}{i:Nat}{P:Int→Prop}(h:∀ n∈C,P n)(h0:P 0):P (C.getD i 0):=by
 by_cases e:i < C.length
 ·exact h _ (Zi e)
 ·rw[List.getD_eq_getElem?_getD,List.getElem?_eq_none (by omega)];exact h0
theorem Zj6{C:List Int}{i k:Nat}(h:k < C.length):Zdg (C.take (k+1)) i=if k=i then Zdg (C.take k) i else Zdg (C.take k) i++[C.getD k 0]:=by
 unfold Zdg
 rw[Zy 0 h]
 have hl:(C.take k).length=k:=by simp;omega
 by_cases e:k=i
 ·rw[if_pos e];subst e
  rw[List.take_append_of_le_length (by omega),List.drop_of_length_le (by simp;omega),List.drop_of_length_le (by omega)]
 ·rw[if_neg e]
  by_cases hk:k < i
  ·have t1:(List.take k C++[C.getD k 0]).take i=List.take k C++[C.getD k 0]:=List.take_of_length_le (by simp only[List.length_append,List.length_cons,List.length_nil];omega)
   have t2:(List.take k C++[C.getD k 0]).drop (i+1)=[]:=List.drop_of_length_le (by simp only[List.length_append,List.length_cons,List.length_nil];omega)
   have t3:(List.take k C).take i=List.take k C:=List.take_of_length_le (by omega)
   have t4:(List.take k C).drop (i+1)=[]:=List.drop_of_length_le (by omega)
   rw[t1,t2,t3,t4,List.append_nil,List.append_nil]
  ·rw[List.take_append_of_le_length (by omega),List.drop_append_of_le_length (by omega),List.append_assoc]
theorem Zn.spec(l:Lin)(i:Int)(hp:Zn.pre (l,i,())):Zn.wp l i (fun r=>r=Zn.fn (l,i,())):=by
 obtain⟨hl,h0,h1⟩:=hp
 simp only at hl h0 h1
 obtain⟨n,rfl⟩:∃ n:Nat,i=n:=⟨i.toNat,by omega⟩
 simp only[Zn.wp,Zn.fn,Int.toNat_natCast]
 refine Lp.iter l.1.length (fun k z=>z=((k:Int),l.2,Zdg (l.1.take k) n)) (by simp[Zdg]) ?_
 rintro k z hk rfl R hR
 by_cases e:k < l.1.length
 ·simp only[decide_eq_true (show (k:Int) < (l.1.length:Int) by omega),Int.toNat_natCast,cond_true]
  refine⟨⟨by omega,by omega⟩,?_⟩
  have hst:=Zj6 (i:=n) e
  have hcl:(Zdg (l.1.take k) n).length≤k:=by unfold Zdg;simp;omega
  by_cases hkn:k=n
  ·rw[show (((k:Nat):Int) != (n:Int))=false by simp[hkn]]
   rw[if_pos hkn] at hst
   exact⟨⟨by omega,by omega⟩,hR e _ (by rw[hst];rfl)⟩
  ·rw[show (((k:Nat):Int) != (n:Int))=true by simp;omega]
   rw[if_neg hkn] at hst
   exact⟨⟨by simp only[List.length_cons,List.length_nil];omega,by simp only[List.length_cons,List.length_nil];omega⟩,⟨by omega,by omega⟩,hR e _ (by rw[hst];rfl)⟩
 ·have:k=l.1.length:=by omega
  subst this
  simp only[Int.lt_irrefl,decide_false,cond_false,List.take_length]
def atC(c:Zc)(x:List Int):Int:=c.2.2.2+ZfS c.2.2.1 x
theorem ZoU:∀ (C x:List Int),ZfS (Zcm C) x=-ZfS C x
 | [],x=>by simp[Zcm,ZfS]
 | n::C,[]=>by simp[Zcm,ZfS]
 | n::C,y::x=>by
   have:=ZoU C x
   simp only[Zcm] at this
   simp only[Zcm,List.map_cons,ZfS,this,Int.neg_mul];omega
theorem ZpA(g:Int):∀ (C D x:List Int),C.length=D.length→(∀ i,i < C.length→C.getD i 0=g*D.getD i 0)→ZfS C x=g*ZfS D x
 | [],[],x,_,_=>by simp[ZfS]
 | [],_::_,_,h,_=>by simp at h
 | _::_,[],_,h,_=>by simp at h
 | n::C,m::D,[],_,_=>by simp[ZfS]
 | n::C,m::D,y::x,h,hi=>by
   have h0:=hi 0 (by simp)
   simp only[List.getD_cons_zero] at h0
   have ih:=ZpA g C D x (by simpa using h) (fun i hi'=>by have:=hi (i+1) (by simpa using hi');simpa using this)
   simp only[ZfS,h0,ih,Int.mul_add,Int.mul_assoc]
theorem Ze7{g:Int}{C:List Int}(h:∀ n∈C,g ∣ n)(x:List Int):ZfS C x=g*ZfS (C.map (·.tdiv g)) x:=by
 refine ZpA g C _ x (by simp) fun i hi=>?_
 have hm:C.getD i 0∈C:=Zi hi
 have e:(C.map (·.tdiv g)).getD i 0=(C.getD i 0).tdiv g:=by simp[List.getD_eq_getElem?_getD,hi]
 rw[e,Int.mul_tdiv_cancel' (h _ hm)]
theorem Znd{C:List Int}(h:∀ n∈C,n=0)(x:List Int):ZfS C x=0:=by
 have:=Ze7 (g:=0) (C:=C) (fun n hn=>by rw[h n hn];exact Int.dvd_refl _) x
 simpa using this
theorem Zpo(m:Int):∀ (C x:List Int),m ∣ ZfS C x - ZfS (C.map (· % m)) x
 | [],x=>by simp[ZfS]
 | n::C,[]=>by simp[ZfS]
 | n::C,y::x=>by
   obtain⟨k,hk⟩:=Zpo m C x
   refine⟨n / m*y+k,?_⟩
   have h1:=Int.mul_ediv_add_emod n m
   simp only[List.map_cons,ZfS]
   have e:n*y=m*(n / m)*y+n % m*y:=by rw[← Int.add_mul,h1]
   rw[e,Int.mul_add,← Int.mul_assoc]
   omega
theorem Zcj{l:List Int}{n:Int}(h:n∈l):(Zbi l:Int) ∣ n:=Int.ofNat_dvd_left.2 ((ZgD (l:=l) (g:=0)).2 n h)
theorem Zmx{v m:Int}:(v.tmod m == 0)=decide (m ∣ v):=by
 rw[Bool.eq_iff_iff];simp[Int.dvd_iff_tmod_eq_zero]
theorem Zvj(c:Zc)(x:List Int)(h0:c.1=0):((geF c).2=0→isF (geF c).1 x=isF c x)∧(0 < (geF c).2→isF c x=true)∧((geF c).2 < 0→isF c x=false):=by
 have ht:isF c x=decide (0≤atC c x):=by unfold isF ZgK;rw[if_pos h0];rfl
 rw[ht]
 unfold geF
 split
 ·rename_i hg
  have hz:ZfS c.2.2.1 x=0:=Znd (Zje hg) x
  have:atC c x=c.2.2.2:=by simp[atC,hz]
  rw[this]
  unfold Zc1
  by_cases hk:0≤c.2.2.2<;>simp[hk]
 ·rename_i hg
  refine⟨fun _=>?_,fun h=>absurd h (by simp),fun h=>absurd h (by simp)⟩
  have hd:=Ze7 (g:=(Zbi c.2.2.1:Int)) (C:=c.2.2.1) (fun n hn=>Zcj hn) x
  have hpos:(0:Int) < (Zbi c.2.2.1:Int):=by omega
  simp only[isF,ZgK,if_true,atC,hd]
  rw[Bool.eq_iff_iff,decide_eq_true_iff,decide_eq_true_iff]
  generalize ZfS (c.2.2.1.map (·.tdiv (Zbi c.2.2.1:Int))) x=d
  generalize (Zbi c.2.2.1:Int)=g at hpos
  generalize c.2.2.2=k
  have h1:-d≤k / g↔-d*g≤k:=Int.le_ediv_iff_mul_le hpos
  rw[Int.neg_mul,Int.mul_comm] at h1
  constructor
  ·intro h;have:=h1.1 (by omega);omega
  ·intro h;have:=h1.2 (by omega);omega
theorem ZvA(c:Zc)(x:List Int)(h1:c.1=1):((eqF c).2=0→isF (eqF c).1 x=isF c x)∧(0 < (eqF c).2→isF c x=true)∧((eqF c).2 < 0→isF c x=false):=by
 have ht:isF c x=(atC c x == 0):=by simp[isF,ZgK,h1,atC]
 rw[ht]
 unfold eqF
 split
 ·rename_i hg
  by_cases hz:Zbi c.2.2.1=0
  ·have hd:ZfS c.2.2.1 x=0:=Znd (Zje hz) x
   have:atC c x=c.2.2.2:=by simp[atC,hd]
   rw[this]
   unfold Zc1
   by_cases hk:c.2.2.2=0<;>simp[hk,hz]
  ·have hm:c.2.2.2.tmod (Zbi c.2.2.1)≠0:=hg.resolve_left hz
   have hne:atC c x≠0:=fun e=>hm (by
    have hd:=Ze7 (g:=(Zbi c.2.2.1:Int)) (C:=c.2.2.1) (fun n hn=>Zcj hn) x
    unfold atC at e
    rw[← Int.dvd_iff_tmod_eq_zero]
    exact⟨-ZfS (c.2.2.1.map (·.tdiv (Zbi c.2.2.1:Int))) x,by rw[Int.mul_neg,← hd];omega⟩)
   unfold Zc1
   simp[hz,hne]
 ·rename_i hg
  simp only[not_or,ne_eq,Classical.not_not] at hg
  obtain⟨hz,hm⟩:=hg
  refine⟨fun _=>?_,fun h=>absurd h (by simp),fun h=>absurd h (by simp)⟩
  have hs:Zbv c=(Zbi c.2.2.1:Int)∨Zbv c=-(Zbi c.2.2.1:Int):=by unfold Zbv;split<;>simp
  have hdv:∀ n:Int,(Zbi c.2.2.1:Int) ∣ n→Zbv c ∣ n:=fun n hn=>by
   rcases hs with e | e<;>rw[e]
   ·exact hn
   ·exact Int.neg_dvd.2 hn
  have hne:Zbv c≠0:=by rcases hs with e | e<;>rw[e]<;>omega
  have hd:=Ze7 (g:=Zbv c) (C:=c.2.2.1) (fun n hn=>hdv n (Zcj hn)) x
  have hk:Zbv c*c.2.2.2.tdiv (Zbv c)=c.2.2.2:=Int.mul_tdiv_cancel' (hdv _ (Int.dvd_iff_tmod_eq_zero.2 hm))
  simp only[isF,ZgK,show ¬ ((1:Int)=0) by omega,if_false,if_true,atC,hd]
  rw[Bool.eq_iff_iff,beq_iff_eq,beq_iff_eq]
  rw[show c.2.2.2+Zbv c*ZfS (c.2.2.1.map (·.tdiv (Zbv c))) x=Zbv c*(c.2.2.2.tdiv (Zbv c)+ZfS (c.2.2.1.map (·.tdiv (Zbv c))) x) by rw[Int.mul_add,hk]]
  constructor
  ·intro h;rw[h,Int.mul_zero]
  ·intro h;exact (Int.mul_eq_zero.1 h).resolve_left hne
theorem Ztx(c:Zc)(x:List Int)(h2:c.1=2)(hm:1≤c.2.1):((Zk6 c).2=0→isF (Zk6 c).1 x=isF c x)∧(0 < (Zk6 c).2→isF c x=true)∧((Zk6 c).2 < 0→isF c x=false):=by
 have ht:isF c x=decide (c.2.1 ∣ atC c x):=by
  simp only[isF,ZgK,h2,atC,show ¬ ((2:Int)=0) by omega,show ¬ ((2:Int)=1) by omega,if_false]
  exact Zmx
 have hmod:c.2.1 ∣ atC c x↔c.2.1 ∣ c.2.2.2 % c.2.1+ZfS (c.2.2.1.map (· % c.2.1)) x:=by
  obtain⟨k,hk⟩:=Zpo c.2.1 c.2.2.1 x
  have e:=Int.mul_ediv_add_emod c.2.2.2 c.2.1
  have:atC c x=(c.2.2.2 % c.2.1+ZfS (c.2.2.1.map (· % c.2.1)) x)+c.2.1*(c.2.2.2 / c.2.1+k):=by
   unfold atC;rw[Int.mul_add];omega
  rw[this]
  exact Int.dvd_add_left (Int.dvd_mul_right _ _)
 have hgm:(Zcr c:Int) ∣ c.2.1:=Zcj (l:=c.2.1::c.2.2.1.map (· % c.2.1)) (by simp)
 have hgc:∀ n∈c.2.2.1.map (· % c.2.1),(Zcr c:Int) ∣ n:=fun n hn=>Zcj (l:=c.2.1::c.2.2.1.map (· % c.2.1)) (by simp only[List.mem_cons];exact .inr hn)
 have hg0:0 < Zcr c:=Zgu hm _
 have hd:=Ze7 (g:=(Zcr c:Int)) (C:=c.2.2.1.map (· % c.2.1)) hgc x
 rw[ht]
 unfold Zk6
 split
 ·rename_i hk
  have hn:¬ c.2.1 ∣ atC c x:=fun h=>hk (by
   have h3:=Int.dvd_trans hgm (hmod.1 h)
   rw[← Int.dvd_iff_tmod_eq_zero]
   exact (Int.dvd_add_left (by rw[hd];exact Int.dvd_mul_right _ _)).1 h3)
  simp[Zc1,hn]
 ·rename_i hk
  simp only[ne_eq,Classical.not_not] at hk
  have hk':=Int.dvd_iff_tmod_eq_zero.2 hk
  split
  ·rename_i he
   have hn:c.2.1 ∣ atC c x:=hmod.2 (by
    have hd':c.2.1 ∣ ZfS (c.2.2.1.map (· % c.2.1)) x:=by rw[hd,← he];exact Int.dvd_mul_right _ _
    exact Int.dvd_add (by have:=hk';rwa [← he] at this) hd')
   simp[Zc1,hn]
  ·refine⟨fun _=>?_,fun h=>absurd h (by simp),fun h=>absurd h (by simp)⟩
   simp only[isF,ZgK,show ¬ ((2:Int)=0) by omega,show ¬ ((2:Int)=1) by omega,if_false]
   rw[Zmx,Bool.eq_iff_iff,decide_eq_true_iff,decide_eq_true_iff,hmod,hd]
   have e1:(Zcr c:Int)*c.2.1.tdiv (Zcr c)=c.2.1:=Int.mul_tdiv_cancel' hgm
   have e2:(Zcr c:Int)*(c.2.2.2 % c.2.1).tdiv (Zcr c)=c.2.2.2 % c.2.1:=Int.mul_tdiv_cancel' hk'
   have hne:(Zcr c:Int)≠0:=by omega
   generalize ZfS ((c.2.2.1.map (· % c.2.1)).map (·.tdiv (Zcr c:Int))) x=d
   rw[← Int.mul_dvd_mul_iff_left hne,Int.mul_add,e1,e2]
theorem Zh7{c:Zc}(hb:Zqa c)(x:List Int):((ZbF c).2=0→isF (ZbF c).1 x=isF c x)∧(0 < (ZbF c).2→isF c x=true)∧((ZbF c).2 < 0→isF c x=false):=by
 unfold ZbF
 rcases hb with h | h | ⟨h,h2,_⟩
 ·rw[if_pos h];exact Zvj c x h
 ·rw[if_neg (by omega),if_pos h];exact ZvA c x h
 ·rw[if_neg (by omega),if_neg (by omega)];exact Ztx c x h h2
def inP(p:List Zc)(x:List Int):Bool:=p.all fun c=>isF c x
theorem Zli{p:List Zc}{x:List Int}:inP p x=true↔∀ c∈p,isF c x=true:=by simp[inP]
theorem Zqe{p:List Zc}(hb:Zay p)(x:List Int)(h:ZaP p=true):inP p x=false:=by
 simp only[ZaP,List.any_map,List.any_eq_true,Function.comp_apply,decide_eq_true_iff] at h
 obtain⟨c,hc,h⟩:=h
 have:=(Zh7 (hb.2 c hc).1 x).2.2 h
 simp only[inP,List.all_eq_false]
 exact⟨c,hc,by rw[this];simp⟩
theorem ZvU{p:List Zc}(hb:Zay p)(x:List Int)(h:ZaP p=false):inP (Zb3 p) x=inP p x:=by
 rw[Bool.eq_iff_iff,Zli,Zli]
 have hn:∀ c∈p,¬ (ZbF c).2 < 0:=fun c hc hlt=>by
  have:ZaP p=true:=by
   simp only[ZaP,List.any_map,List.any_eq_true,Function.comp_apply,decide_eq_true_iff]
   exact⟨c,hc,hlt⟩
  rw[h] at this;cases this
 constructor
 ·intro ha c hc
  have hs:=Zh7 (hb.2 c hc).1 x
  rcases Int.lt_trichotomy (ZbF c).2 0 with h0 | h0 | h0
  ·exact absurd h0 (hn c hc)
  ·rw[← hs.1 h0]
   refine ha _ ?_
   simp only[Zb3,List.mem_map,List.mem_filter]
   exact⟨ZbF c,⟨⟨c,hc,rfl⟩,by simpa using h0⟩,rfl⟩
  ·exact hs.2.1 h0
 ·intro ha c hc
  simp only[Zb3,List.mem_map,List.mem_filter] at hc
  obtain⟨r,⟨⟨d,hd,rfl⟩,hr⟩,rfl⟩:=hc
  rw[(Zh7 (hb.2 d hd).1 x).1 (by simpa using hr)]
  exact ha d hd
def ZuO(L:Zc→Prop)(x:List Int):Prop:=∀ c,L c→isF c x=true
theorem ZfM{c:Zc}(h:c.1=0)(x:List Int):isF c x=true↔0≤atC c x:=by
 unfold isF ZgK;rw[if_pos h,decide_eq_true_iff];rfl
theorem Zhj{c:Zc}(h:c.1=1)(x:List Int):isF c x=true↔atC c x=0:=by
 unfold isF ZgK;rw[if_neg (by omega),if_pos h,beq_iff_eq];rfl
theorem Zkb(f:Zc→Int):∀ {l:List Zc},l≠[]→∃ c∈l,∀ d∈l,f c≤f d
 | [],h=>absurd rfl h
 | [c],_=>⟨c,by simp,fun d hd=>by simp only[List.mem_singleton] at hd;subst hd;exact Int.le_refl _⟩
 | c::d::l,_=>by
   obtain⟨e,he,hm⟩:=Zkb f (l:=d::l) (by simp)
   by_cases h:f c≤f e
   ·refine⟨c,by simp,fun y hy=>?_⟩
    rcases List.mem_cons.1 hy with rfl | hy
    ·exact Int.le_refl _
    ·exact Int.le_trans h (hm y hy)
   ·refine⟨e,List.mem_cons_of_mem _ he,fun y hy=>?_⟩
    rcases List.mem_cons.1 hy with rfl | hy
    ·omega
    ·exact hm y hy
theorem Zxt{l:List Zc}{x:List Int}:ZuO (Lm l) x↔∀ c∈l,isF c x=true:=by
 refine⟨fun h d hd=>?_,fun h c hc=>h c hc.1⟩
 by_cases h0:d.1=0
 ·obtain⟨c,hc,hm⟩:=Zkb (fun c=>c.2.2.2) (l:=l.filter fun c=>decide (c.1=0∧c.2.2.1=d.2.2.1)) (List.ne_nil_of_mem (List.mem_filter.2 ⟨hd,by simp[h0]⟩))
  obtain⟨hcl,hcp⟩:=List.mem_filter.1 hc
  simp only[decide_eq_true_iff] at hcp
  have hL:Lm l c:=⟨hcl,fun _ e he h1 h2=>hm e (List.mem_filter.2 ⟨he,by simp[h1,h2,hcp.2]⟩)⟩
  have h1:=(ZfM hcp.1 x).1 (h c hL)
  have h2:=hm d (List.mem_filter.2 ⟨hd,by simp[h0]⟩)
  rw[ZfM h0]
  unfold atC at h1 ⊢
  rw[hcp.2] at h1
  omega
 ·exact h d ⟨hd,fun e=>absurd e h0⟩
theorem Zrj{n:Nat}{c:Zc}(h:Mk n c)(h0:c.1=0)(x:List Int):isF (ZlC c) x=true↔atC c x=0:=by
 have hs:=(Zh7 (c:=(1,0,c.2.2)) (.inr (.inl rfl)) x).1 (by
  have hg:=h.gcd h0
  simp[ZbF,eqF,hg,Int.tmod_one])
 rw[show ZlC c=(ZbF (1,0,c.2.2)).1 from rfl,hs,Zhj rfl]
 rfl
theorem ZoR{c d:Zc}(h:d.2.2.1=Zcm c.2.2.1)(x:List Int):atC d x=d.2.2.2+c.2.2.2 - atC c x:=by
 unfold atC;rw[h,ZoU];omega
theorem Zwm{n:Nat}{L:Zc→Prop}(hm:∀ c,L c→Mk n c){x:List Int}:ZuO (MM L) x↔ZuO L x:=by
 constructor
 ·intro h c hc
  by_cases hO:c.1=0∧Opp L c
  ·have:=(Zrj (hm c hc) hO.1 x).1 (h _ (.inr ⟨c,hc,hO.1,hO.2,rfl⟩))
   rw[ZfM hO.1];omega
  ·exact h c (.inl ⟨hc,fun h0 ho=>hO ⟨h0,ho⟩⟩)
 ·rintro h c (⟨hc,_⟩ | ⟨d,hd,h0,⟨e,he,h1,h2,h3⟩,rfl⟩)
  ·exact h c hc
  ·rw[Zrj (hm d hd) h0]
   have a1:=(ZfM h0 x).1 (h d hd)
   have a2:=(ZfM h1 x).1 (h e he)
   rw[ZoR h2] at a2
   omega
theorem ZtY{L:Zc→Prop}{x:List Int}(h:Zhv L):¬ ZuO L x:=fun ha=>by
 obtain⟨c,d,hc,hd,h0,h1,h2,h3⟩:=h
 have a1:=(ZfM h0 x).1 (ha c hc)
 have a2:=(ZfM h1 x).1 (ha d hd)
 rw[ZoR h2] at a2
 omega
theorem Zoi{c d:Zc}(h:d.2.2.1=c.2.2.1)(x:List Int):atC d x=d.2.2.2 - c.2.2.2+atC c x:=by
 unfold atC;rw[h];omega
theorem ZtW{M:Zc→Prop}{x:List Int}(h:Zgd M):¬ ZuO M x:=fun ha=>by
 rcases h with ⟨e,f,he,hf,h1,h2,h3,h4⟩ | ⟨c,e,hc,he,h0,h1,⟨h2,h3⟩ | ⟨h2,h3⟩⟩
 ·have a1:=(Zhj h1 x).1 (ha e he)
  have a2:=(Zhj h2 x).1 (ha f hf)
  rw[Zoi h3] at a1
  omega
 ·have a1:=(ZfM h0 x).1 (ha c hc)
  have a2:=(Zhj h1 x).1 (ha e he)
  rw[Zoi h2] at a2
  omega
 ·have a1:=(ZfM h0 x).1 (ha c hc)
  have a2:=(Zhj h1 x).1 (ha e he)
  rw[ZoR h2] at a2
  omega
theorem Zu6{M:Zc→Prop}{x:List Int}(hv:¬ Zgd M):ZuO (Zuw M) x↔ZuO M x:=by
 refine⟨fun h c hc=>?_,fun h c hc=>h c hc.1⟩
 by_cases hf:Zuw M c
 ·exact h c hf
 ·have h0:c.1=0:=Classical.byContradiction fun h0=>hf ⟨hc,fun e=>absurd e h0⟩
  have:∃ e,M e∧e.1=1∧(e.2.2.1=c.2.2.1∨e.2.2.1=Zcm c.2.2.1):=Classical.byContradiction fun hn=>hf ⟨hc,fun _ e he h1=>⟨fun h2=>hn ⟨e,he,h1,.inl h2⟩,fun h2=>hn ⟨e,he,h1,.inr h2⟩⟩⟩
  obtain⟨e,he,h1,h2⟩:=this
  have a2:=(Zhj h1 x).1 (h e ⟨he,fun e0=>by omega⟩)
  rw[ZfM h0]
  rcases h2 with h2 | h2
  ·have:¬ c.2.2.2 < e.2.2.2:=fun h3=>hv (.inr ⟨c,e,hc,he,h0,h1,.inl ⟨h2,h3⟩⟩)
   rw[Zoi h2] at a2
   omega
  ·have:¬ c.2.2.2+e.2.2.2 < 0:=fun h3=>hv (.inr ⟨c,e,hc,he,h0,h1,.inr ⟨h2,h3⟩⟩)
   rw[ZoR h2] at a2
   omega
theorem Zir{p:List Zc}{n:Nat}(hb:Zay p)(hd:Zda p n)(hv:ZaP p=false)(h1:¬ Zhv (Lm (Zb3 p)))(h2:¬ Zgd (MM (Lm (Zb3 p)))):∃ m:List Zc,∀ x,x∈m↔Zuw (MM (Lm (Zb3 p))) x:=by
 have hl:=ZjH hb hd
 have e:(fun x=>x∈ZbM (Zb3 p))=Lm (Zb3 p):=funext fun x=>propext (Zdk hl x)
 have hL:∀ c∈ZbM (Zb3 p),Mk n c:=Zig (fun d c hd _=>Zsv hd) hl
 have hu:Zxu (ZbM (Zb3 p)):=fun c hc d hd h0 h1 h=>Lm.uniq hl ((Zdk hl c).1 hc) ((Zdk hl d).1 hd) h0 h1 h
 obtain⟨hp1,hp2⟩:=ZmC hL hu
 rw[e] at hp1 hp2
 rcases Z8 (ZeO (ZbM (Zb3 p))) with h3 | ⟨M,h3⟩
 ·exact absurd (hp1 h3) h1
 ·obtain⟨hnv,hM⟩:=hp2 M h3
  have eM:(fun x=>x∈M)=MM (Lm (Zb3 p)):=funext fun x=>propext (hM x)
  have hMk:∀ c∈M,Mk n c:=Zop (fun c h0 hc=>(ZdD hc h0).1) hL h3
  obtain⟨hs1,hs2⟩:=Zi4 hMk
  rw[eM] at hs1 hs2
  rcases Z8 (Zcl M) with h4 | ⟨out,h4⟩
  ·exact absurd (hs1 h4) h2
  ·exact⟨out,(hs2 out h4).2⟩
theorem Zt0{p:List Zc}{n:Nat}(hb:Zay p)(hd:Zda p n)(x:List Int)(h3:(Z9 p).2.2=0):((Z9 p).2.1=true→inP p x=false)∧((Z9 p).2.1=false→inP (Z9 p).1 x=inP p x):=by
 by_cases hv:ZaP p=true
 ·have e:Z9 p=([],true,0):=by have:=Zcv p;rw[hv] at this;simpa using this
  rw[e]
  exact⟨fun _=>Zqe hb x hv,fun h=>by cases h⟩
 ·have hv:ZaP p=false:=by simpa using hv
  obtain⟨s1,s2⟩:=Zea hb hd hv
  have hl:=ZjH hb hd
  have hLm:∀ c,Lm (Zb3 p) c→Mk n c:=fun c hc=>hl c hc.1
  have base:ZuO (MM (Lm (Zb3 p))) x↔inP p x=true:=by rw[Zwm hLm,Zxt,← Zli,ZvU hb x hv]
  by_cases hw:Zhv (Lm (Zb3 p))∨Zgd (MM (Lm (Zb3 p)))
  ·rw[s1 hw]
   refine⟨fun _=>?_,fun h=>(by cases h)⟩
   rw[← Bool.not_eq_true,← base]
   rcases hw with h | h
   ·rw[Zwm hLm];exact ZtY h
   ·exact ZtW h
  ·have hw1:¬ Zhv (Lm (Zb3 p)):=fun h=>hw (.inl h)
   have hw2:¬ Zgd (MM (Lm (Zb3 p))):=fun h=>hw (.inr h)
   obtain⟨m,hm⟩:=Zir hb hd hv hw1 hw2
   have hk3:K3 m:=fun c hc=>(by
    rcases ((hm c).1 hc).1 with ⟨h,_⟩ | ⟨d,h,h0,_,rfl⟩
    ·exact (hLm c h).2.1
    ·exact (ZdD (hLm d h) h0).1.2.1)
   rw[s2 hw1 hw2 m hm] at h3 ⊢
   split at h3
   ·cases h3
   ·rename_i hc
    rw[if_neg hc]
    refine⟨fun h=>(by cases h),fun _=>?_⟩
    rw[Bool.eq_iff_iff,← base,← Zu6 hw2,Zli]
    constructor
    ·intro h c hc;exact h c ((Zc6 hk3 c).2 ((hm c).2 hc))
    ·intro h c hc;exact h c ((hm c).1 ((Zc6 hk3 c).1 hc))
def inS(l:List (List Zc))(x:List Int):Bool:=l.any fun p=>inP p x
theorem ZvM{l:List (List Zc)}{x:List Int}:inS l x=true↔∃ p∈l,inP p x=true:=by simp[inS]
theorem ZqI(a b:List (List Zc))(x:List Int):inS (a++b) x=(inS a x||inS b x):=by simp[inS]
theorem Zqp{out out':List (List Zc)}{p:List Zc}{n:Nat}(hb:Zay p)(hd:Zda p n)(x:List Int)(h:Z6 out p=some out'):inS out' x=(inS out x||inP p x):=by
 unfold Z6 at h
 split at h
 ·cases h
 ·rename_i h3
  have h3:(Z9 p).2.2=0:=by simpa using h3
  obtain⟨t1,t2⟩:=Zt0 hb hd x h3
  split at h
  ·rename_i h4
   cases h
   by_cases hv:(Z9 p).2.1=true
   ·rw[t1 hv,Bool.or_false]
   ·have hv:(Z9 p).2.1=false:=by simpa using hv
    have hm:=h4.resolve_left (by rw[hv];simp)
    rw[← t2 hv]
    cases hq:inP (Z9 p).1 x with
    | false=>rw[Bool.or_false]
    | true=>rw[Bool.or_true];exact ZvM.2 ⟨_,hm,hq⟩
  ·rename_i h4
   split at h
   ·cases h
   ·cases h
    have hv:(Z9 p).2.1=false:=by
     cases hv:(Z9 p).2.1 with
     | false=>rfl
     | true=>exact absurd (.inl hv) h4
    rw[ZqI,← t2 hv];simp[inS]
theorem Zq1{n:Nat}(x:List Int):∀ {l out out':List (List Zc)},(∀ p∈l,Zay p∧Zda p n)→l.foldlM Z6 out=some out'→inS out' x=(inS out x||inS l x)
 | [],out,out',_,h=>by cases h;simp[inS]
 | p::l,out,out',hl,h=>by
   rw[List.foldlM_cons] at h
   obtain⟨o1,h1,h2⟩:=Option.bind_eq_some_iff.1 h
   obtain⟨hb,hd⟩:=hl p (by simp)
   rw[Zq1 x (fun q hq=>hl q (List.mem_cons_of_mem _ hq)) h2,Zqp hb hd x h1,Bool.or_assoc]
   congr 1
theorem ZvO{n:Nat}(x:List Int){l out:List (List Zc)}(hl:∀ p∈l,Zay p∧Zda p n)(h:ZdX l=some out):inS out x=inS l x:=by
 rw[Zq1 x hl h];simp[inS]
theorem Zqx{n:Int}{o:Option (List (List Zc))}(h:(ZfJ n o).2=0):∃ out,o=some out∧(ZfJ n o).1=(n,out):=by
 cases o with
 | none=>simp[ZfJ] at h
 | some out=>exact⟨out,rfl,rfl⟩
theorem ZtF{s:ZbZ}(x:List Int)(h:(Zaa s).2=0):inS (Zaa s).1.2 x=inS s.2 x∧(Zaa s).1.1=s.1∧Zr s=true:=by
 unfold Zaa at h ⊢
 split at h
 ·simp at h
 ·rename_i hv
  have hv:Zr s=true:=by simpa using hv
  rw[if_neg (by rw[hv];simp)]
  obtain⟨out,h1,h2⟩:=Zqx h
  rw[h2]
  exact⟨ZvO x (fun p hp=>Zr.D hv hp) h1,rfl,hv⟩
def PD(n:Nat)(l:List (List Zc)):Prop:=PP l∧∀ p∈l,Zda p n
theorem PD.at{n:Nat}{l:List (List Zc)}(h:PD n l){p:List Zc}(hp:p∈l):Zcb p∧Zda p n:=⟨h.1.v hp,h.2 p hp⟩
theorem Zh6{s:ZbZ}(h:(Zaa s).2=0):PD s.1.toNat (Zaa s).1.2:=⟨(Zg0 h).1,Zhw (ZtF [] h).2.2 h⟩
def Nf(c:Zc):Prop:=ZbF c=(c,0)
theorem ZxR{c:Zc}(h0:c.1=0)(h1:c.2.1=0)(hg:Zbi c.2.2.1=1):Nf c:=by
 obtain⟨a,b,C,K⟩:=c
 simp only at h0 h1 hg
 subst h0 h1
 unfold Nf ZbF geF
 simp only[hg,if_true]
 simp
theorem ZwS{c:Zc}(h0:c.1=1)(h1:c.2.1=0)(hg:Zbi c.2.2.1=1)(hf:Za7 c.2.2.1=false):Nf c:=by
 obtain⟨a,b,C,K⟩:=c
 simp only at h0 h1 hg hf
 subst h0 h1
 have hs:Zbv (1,0,C,K)=1:=by unfold Zbv;simp[hf,hg]
 unfold Nf ZbF eqF
 rw[if_neg (by simp),if_pos rfl,hs]
 simp[hg,Int.tmod_one]
theorem ZwN{c:Zc}(h0:c.1=2)(hm:2≤c.2.1)(hC:∀ n∈c.2.2.1,0≤n∧n < c.2.1)(hK:0≤c.2.2.2∧c.2.2.2 < c.2.1)(hg:Zbi (c.2.1::c.2.2.1)=1):Nf c:=by
 obtain⟨a,M,C,K⟩:=c
 simp only at h0 hm hC hK hg
 subst h0
 have e1:C.map (· % M)=C:=by
  conv=>rhs;rw[← List.map_id C]
  exact List.map_congr_left fun n hn=>Int.emod_eq_of_lt (hC n hn).1 (hC n hn).2
 have e2:K % M=K:=Int.emod_eq_of_lt hK.1 hK.2
 have hd:Zcr (2,M,C,K)=1:=by unfold Zcr;simp only[e1,hg]
 unfold Nf ZbF Zk6
 rw[if_neg (by simp),if_neg (by simp),hd]
 simp only[e1,e2]
 rw[if_neg (by simp[Int.tmod_one]),if_neg (by show ¬ M=((1:Nat):Int);omega)]
 simp
theorem Zpt{g:Nat}:∀ {l:List Int},Zbi (l.map fun n=>(g:Int)*n)=g*Zbi l
 | []=>by simp[Zbi]
 | n::l=>by
   rw[List.map_cons,ZgX,Zpt (l:=l),ZgX,Int.natAbs_mul,Int.natAbs_natCast,Nat.gcd_mul_left]
theorem ZwR{c:Zc}(hb:condB c)(h:(ZbF c).2=0):Nf (ZbF c).1:=by
 obtain⟨hn,hk1⟩:=Zjg hb h
 obtain⟨hk,_⟩:=hb
 have hs:∀ b,(Zc1 b).2≠0:=fun b=>by cases b<;>simp[Zc1]
 rcases hk with hk | hk | ⟨hk,hm1,hm2⟩
 ·exact ZxR (by omega) (Znr h (by omega)) (hn.2.1 (by omega))
 ·refine ZwS (by omega) ?_ (hn.2.1 (by omega)) (hn.2.2 (by omega))
  have hr:ZbF c=eqF c:=by simp[ZbF,hk]
  rw[hr] at h ⊢
  unfold eqF at h ⊢
  split at h
  ·exact absurd h (hs _)
  ·rename_i ha;rw[if_neg ha]
 ·have hr:ZbF c=Zk6 c:=by simp[ZbF,hk]
  rw[hr] at h ⊢
  unfold Zk6 at h ⊢
  split at h
  ·exact absurd h (hs _)
  split at h
  ·exact absurd h (hs _)
  rename_i ha hb
  rw[if_neg ha,if_neg hb]
  have hgm:(Zcr c:Int) ∣ c.2.1:=Zcj (l:=c.2.1::c.2.2.1.map (· % c.2.1)) (by simp)
  have hgc:∀ n∈c.2.2.1.map (· % c.2.1),(Zcr c:Int) ∣ n:=fun n hn=>Zcj (l:=c.2.1::c.2.2.1.map (· % c.2.1)) (by simp only[List.mem_cons];exact .inr hn)
  have hgk:(Zcr c:Int) ∣ c.2.2.2 % c.2.1:=Int.dvd_iff_tmod_eq_zero.2 (by simpa using ha)
  have hg0:0 < Zcr c:=Zgu hm1 _
  obtain⟨M,hM⟩:=hgm
  have e1:c.2.1.tdiv (Zcr c)=M:=by rw[hM];exact Int.mul_tdiv_cancel_left _ (by omega)
  have hdv:∀ x:Int,(Zcr c:Int) ∣ x→(Zcr c:Int)*x.tdiv (Zcr c)=x:=fun x hx=>Int.mul_tdiv_cancel' hx
  have hMp:0 < M:=by
   rcases Int.lt_or_le 0 M with h | h
   ·exact h
   ·have:(Zcr c:Int)*M≤0:=Int.mul_nonpos_of_nonneg_of_nonpos (by omega) h
    omega
  have hM1:M≠1:=fun e=>hb (by rw[hM,e,Int.mul_one])
  have small:∀ x:Int,0≤x→x < c.2.1→(Zcr c:Int) ∣ x→0≤x.tdiv (Zcr c)∧x.tdiv (Zcr c) < M:=fun x h0 h1 hx=>by
   have hx':=hdv x hx
   refine⟨Int.tdiv_nonneg h0 (by omega),?_⟩
   rcases Int.lt_or_le (x.tdiv (Zcr c)) M with h | h
   ·exact h
   ·have:=Int.mul_le_mul_of_nonneg_left h (show (0:Int)≤(Zcr c:Int) by omega)
    omega
  have hmod:∀ x:Int,0≤x % c.2.1∧x % c.2.1 < c.2.1:=fun x=>⟨Int.emod_nonneg _ (by omega),Int.emod_lt_of_pos _ (by omega)⟩
  refine ZwN rfl (by show 2≤c.2.1.tdiv (Zcr c);rw[e1];omega) (fun n hn=>?_) ?_ ?_
  ·show 0≤n∧n < c.2.1.tdiv (Zcr c)
   rw[e1]
   obtain⟨x,hx,rfl⟩:=List.mem_map.1 hn
   have hx2:=hgc x hx
   obtain⟨y,hy,rfl⟩:=List.mem_map.1 hx
   exact small _ (hmod y).1 (hmod y).2 hx2
  ·show 0≤(c.2.2.2 % c.2.1).tdiv (Zcr c)∧(c.2.2.2 % c.2.1).tdiv (Zcr c) < c.2.1.tdiv (Zcr c)
   rw[e1]
   exact small _ (hmod _).1 (hmod _).2 hgk
  ·show Zbi (c.2.1.tdiv (Zcr c)::(c.2.2.1.map (· % c.2.1)).map (·.tdiv (Zcr c)))=1
   have h1:=Zpt (g:=Zcr c) (l:=c.2.1.tdiv (Zcr c)::(c.2.2.1.map (· % c.2.1)).map (·.tdiv (Zcr c)))
   have e:(c.2.1.tdiv (Zcr c)::(c.2.2.1.map (· % c.2.1)).map (·.tdiv (Zcr c))).map (fun n=>(Zcr c:Int)*n)=c.2.1::c.2.2.1.map (· % c.2.1):=by
    rw[List.map_cons,e1,← hM,List.map_map]
    congr 1
    conv=>rhs;rw[← List.map_id (c.2.2.1.map (· % c.2.1))]
    exact List.map_congr_left fun n hn=>hdv n (hgc n hn)
   rw[e] at h1
   have h2:Zcr c=Zcr c*Zbi (c.2.1.tdiv (Zcr c)::(c.2.2.1.map (· % c.2.1)).map (·.tdiv (Zcr c))):=h1
   exact (Nat.eq_of_mul_eq_mul_left hg0 (by rw[Nat.mul_one];exact h2)).symm
theorem Zvk{p:List Zc}(hb:Zay p){c:Zc}(h:c∈Zb3 p):Nf c:=by
 simp only[Zb3,List.mem_map,List.mem_filter] at h
 obtain⟨r,⟨⟨d,hd,rfl⟩,hr⟩,rfl⟩:=h
 exact ZwR (hb.2 d hd) (by simpa using hr)
theorem Zvh{n:Nat}{c:Zc}(h:Mk n c)(h0:c.1=0):Nf (ZlC c):=by
 have hk:=ZdD h h0
 refine ZwS hk.2 ?_ (hk.1.1.2.1 (by rw[hk.2];omega)) (hk.1.1.2.2 hk.2)
 have hg:=h.gcd h0
 simp[ZlC,ZbF,eqF,hg,Int.tmod_one]
theorem Ztz{q:List Zc}(h:∀ c∈q,Nf c):ZaP q=false∧Zb3 q=q:=by
 have e:q.map ZbF=q.map fun c=>(c,(0:Int)):=List.map_congr_left fun c hc=>h c hc
 constructor
 ·unfold ZaP;rw[e,List.any_map];simp
 ·unfold Zb3
  rw[e,List.filter_eq_self.2 (fun r hr=>by obtain⟨c,_,rfl⟩:=List.mem_map.1 hr;rfl),List.map_map]
  exact List.map_id q
def Fx(q:List Zc):Prop:=Z9 q=(q,false,0)
theorem ZqG{p:List Zc}{n:Nat}(hb:Zay p)(hd:Zda p n)(h0:(Z9 p).2.2=0)(h1:(Z9 p).2.1=false):Fx (Z9 p).1:=by
 have hv:ZaP p=false:=by
  cases hv:ZaP p with
  | false=>rfl
  | true =>
    have e:Z9 p=([],true,0):=by have:=Zcv p;rw[hv] at this;simpa using this
    rw[e] at h1;cases h1
 have hok:=Zpk hb
 have hdq:=Zk0 hb hd
 obtain⟨s1,s2⟩:=Zea hb hd hv
 have hl:=ZjH hb hd
 have hLm:∀ c,Lm (Zb3 p) c→Mk n c:=fun c hc=>hl c hc.1
 have hw1:¬ Zhv (Lm (Zb3 p)):=fun h=>by rw[s1 (.inl h)] at h1;cases h1
 have hw2:¬ Zgd (MM (Lm (Zb3 p))):=fun h=>by rw[s1 (.inr h)] at h1;cases h1
 obtain⟨m,hm⟩:=Zir hb hd hv hw1 hw2
 have hMM:∀ c,MM (Lm (Zb3 p)) c→Mk n c∧Nf c:=fun c hc=>by
  rcases hc with ⟨h,_⟩ | ⟨d,h,hd0,_,rfl⟩
  ·exact⟨hLm c h,Zvk hb h.1⟩
  ·exact⟨(ZdD (hLm d h) hd0).1,Zvh (hLm d h) hd0⟩
 have hk3:K3 m:=fun c hc=>(hMM c ((hm c).1 hc).1).1.2.1
 have hs:=s2 hw1 hw2 m hm
 have hlen:=ZjC p
 have hq:(Z9 p).1=Za8 m:=by
  rw[hs] at h0 ⊢
  split at h0
  ·cases h0
  ·rename_i hc;rw[if_neg hc]
 generalize (Z9 p).1=q at *
 subst hq
 have hmem:∀ x,x∈Za8 m↔Zuw (MM (Lm (Zb3 p))) x:=fun x=>by rw[Zc6 hk3,hm]
 have hnf:∀ c∈Za8 m,Nf c:=fun c hc=>(hMM c ((hmem c).1 hc).1).2
 obtain⟨v2,r2⟩:=Ztz hnf
 have hL:∀ {x},x∈Za8 m→x.1=0→Lm (Zb3 p) x∧¬ Opp (Lm (Zb3 p)) x:=fun {x} hx h0=>by
  rcases ((hmem x).1 hx).1 with ⟨h,h'⟩ | ⟨d,h,hd0,_,rfl⟩
  ·exact⟨h,h' h0⟩
  ·have:=(ZdD (hLm d h) hd0).2;omega
 have a1:∀ x,Lm (Za8 m) x↔x∈Za8 m:=fun x=>⟨fun h=>h.1,fun h=>⟨h,fun h0 d hd hd0 he=>by
  have:=Lm.uniq hl (hL h h0).1 (hL hd hd0).1 h0 hd0 he.symm
  rw[this];exact Int.le_refl _⟩⟩
 have a1e:Lm (Za8 m)=(· ∈ Za8 m):=funext fun x=>propext (a1 x)
 have opp:∀ c,c.1=0→c∈Za8 m→¬ Opp (· ∈ Za8 m) c:=fun c h0 hc ⟨d,hd,hd0,h2,h3⟩=>(hL hc h0).2 ⟨d,(hL hd hd0).1,hd0,h2,h3⟩
 have a2:∀ x,MM (· ∈ Za8 m) x↔x∈Za8 m:=fun x=>⟨fun h=>by
  rcases h with ⟨h,_⟩ | ⟨c,hc,h0,ho,_⟩
  ·exact h
  ·exact absurd ho (opp c h0 hc),fun h=>.inl ⟨h,fun h0=>opp x h0 h⟩⟩
 have a2e:MM (· ∈ Za8 m)=(· ∈ Za8 m):=funext fun x=>propext (a2 x)
 have a3:∀ x,Zuw (· ∈ Za8 m) x↔x∈Za8 m:=fun x=>⟨fun h=>h.1,fun h=>⟨h,fun h0 e he h1=>((hmem x).1 h).2 h0 e ((hmem e).1 he).1 h1⟩⟩
 obtain⟨_,t2⟩:=Zea hok.B hdq v2
 rw[r2,a1e,a2e] at t2
 have hv1:¬ Zhv (· ∈ Za8 m):=fun ⟨c,d,hc,hd,h0,h1,h2,h3⟩=>hw1 ⟨c,d,(hL hc h0).1,(hL hd h1).1,h0,h1,h2,h3⟩
 have hsub:∀ {x},x∈Za8 m→MM (Lm (Zb3 p)) x:=fun {x} hx=>((hmem x).1 hx).1
 have hv2:¬ Zgd (· ∈ Za8 m):=fun h=>by
  rcases h with ⟨e,f,he,hf,h1,h2,h3,h4⟩ | ⟨c,e,hc,he,h0,h1,h2⟩
  ·exact hw2 (.inl ⟨e,f,hsub he,hsub hf,h1,h2,h3,h4⟩)
  ·exact hw2 (.inr ⟨c,e,hsub hc,hsub he,h0,h1,h2⟩)
 have hfin:=t2 hv1 hv2 (Za8 m) (fun x=>(a3 x).symm)
 have hself:Za8 (Za8 m)=Za8 m:=(Zki (fun c hc=>hk3 c ((Zc6 hk3 c).1 hc)) (Zie hk3) (fun c=>Iff.rfl)).symm
 unfold Fx
 rw[hfin,hself,if_neg]
 rw[Bool.or_eq_true,decide_eq_true_iff]
 rintro (h | h)
 ·rw[List.any_eq_true] at h
  obtain⟨c,hc,h⟩:=h
  rw[hok.2 c hc] at h;cases h
 ·omega
def Nm(l:List (List Zc)):Prop:=l.Nodup∧∀ q∈l,Fx q
theorem Zqf{out out':List (List Zc)}{p:List Zc}{n:Nat}(hb:Zay p)(hd:Zda p n)(h:Z6 out p=some out')(ho:Nm out):Nm out':=by
 unfold Z6 at h
 split at h
 ·cases h
 ·rename_i h3
  split at h
  ·cases h;exact ho
  ·rename_i h4
   split at h
   ·cases h
   ·cases h
    rw[not_or] at h4
    have hf:Fx (Z9 p).1:=ZqG hb hd (by simpa using h3) (by simpa using h4.1)
    refine⟨List.nodup_append.2 ⟨ho.1,by simp,fun a ha b hb'=>?_⟩,fun q hq=>?_⟩
    ·simp only[List.mem_singleton] at hb'
     subst hb'
     exact fun e=>h4.2 (by rw[← e];exact ha)
    ·rcases List.mem_append.1 hq with h | h
     ·exact ho.2 q h
     ·simp only[List.mem_singleton] at h;subst h;exact hf
theorem Zss{n:Nat}:∀ {l out out':List (List Zc)},(∀ p∈l,Zay p∧Zda p n)→l.foldlM Z6 out=some out'→Nm out→Nm out'
 | [],out,out',_,h,ho=>by cases h;exact ho
 | p::l,out,out',hl,h,ho=>by
   rw[List.foldlM_cons] at h
   obtain⟨o1,h1,h2⟩:=Option.bind_eq_some_iff.1 h
   obtain⟨hb,hd⟩:=hl p (by simp)
   exact Zss (fun q hq=>hl q (List.mem_cons_of_mem _ hq)) h2 (Zqf hb hd h1 ho)
theorem Nm.nil:Nm []:=⟨List.nodup_nil,fun q hq=>by cases hq⟩
theorem PD.of_tid{n:Nat}{l out:List (List Zc)}(hl:∀ p∈l,Zay p∧Zda p n)(h:ZdX l=some out):PD n out∧Nm out :=
 ⟨⟨Zlc h PP.nil (fun p hp=>(hl p hp).1),ZgT h (by simp) hl⟩,Zss hl h Nm.nil⟩
abbrev Part:=Zc×Int×Lin
abbrev Pc:=Int×List Zc×List Part×Int×List Part×List Part×List Part
abbrev Zcd:Part:=(Za,0,[],0)
def Zbh(n:Int):Int:=max n (-n)
def Ze(v:Nat)(c:Zc):Int:=c.2.2.1.getD v 0
def ZaN(v:Nat)(c:Zc):Lin:=(Zdg c.2.2.1 v,c.2.2.2)
def Zdn(v:Nat)(c:Zc):Zc:=(c.1,c.2.1,ZaN v c)
def ZaK(v:Nat)(c:Zc):Part:=(c,Ze v c,ZaN v c)
def Zbx{α:Type}(d:α)(l:List α):List (Nat×α):=(List.range l.length).map fun i=>(i,l.getD i d)
abbrev ZO.fn(x:Int×Lin×Int×Lin×Unit):Lin:=ZcF x.1 x.2.1 x.2.2.1 x.2.2.2.1
abbrev ZO.pre(x:Int×Lin×Int×Lin×Unit):Prop:=Zw.pre x
abbrev Zau.fn(x:Lin×Int×Unit):Lin:=(x.1.1,x.1.2+x.2.1)
abbrev Zau.pre(x:Lin×Int×Unit):Prop:=Zdf x.1∧-1048576≤x.2.1∧x.2.1≤1048576
abbrev Zo.fn(x:Int×Unit):Int:=Zbh x.1
abbrev Zo.pre(x:Int×Unit):Prop:=ZeD x.1
abbrev ZX.fn(x:Int×Int×Unit):Lin:=(List.replicate x.1.toNat 0,x.2.1)
abbrev ZX.pre(x:Int×Int×Unit):Prop:=0≤x.1∧x.1≤1048576
def Zgk(l:List Int):Nat:=l.foldl (fun m n=>Nat.lcm m n.natAbs) 1
def ZiH(l:List Int):Int×Int:=if (l.any fun n=>decide (n < 1))=true then (0,1) else if 512 < Zgk l then (0,3) else ((Zgk l:Nat),0)
abbrev ZaI.fn(x:Int×Int×Unit):Int:=if (decide ((512:Int) < x.1)||decide ((512:Int) < IntKind.wrap IntKind.u64 x.2.1))=true then 513 else IntKind.wrap IntKind.u64 ((IntKind.wrap IntKind.u64 (Int.tdiv x.1 (Zal.fn (x.1,IntKind.wrap IntKind.u64 x.2.1,()))))*IntKind.wrap IntKind.u64 x.2.1)
abbrev ZaI.pre(x:Int×Int×Unit):Prop:=1≤x.2.1∧x.2.1≤9223372036854775807
abbrev ZM.fn(x:List Int×Unit):Int×Int:=ZiH x.1
abbrev ZM.pre(x:List Int×Unit):Prop:=Zdd x.1
abbrev ZaG.fn(x:List Int×Unit):Int×Int:=ZiH x.1
abbrev ZaG.pre(x:List Int×Unit):Prop:=Zdd x.1
def Zu5(l:List Int)(st:Int×Int):Int×Int:=(Zbx 0 l).foldl (fun st ia=>if ia.2=0 then st else (if ia.2=1∨ia.2=-1 then max st.1 (ia.1:Int) else st.1,max st.2 (ia.1:Int))) st
def Zg3(p:List Zc):Int×Int:=p.foldl (fun st c=>if c.1=1 then Zu5 c.2.2.1 st else st) (-1,-1)
def ZjW(p:List Zc)(v:Nat):Nat:=(p.filter fun c=>decide (c.1=0∧0 < Ze v c)).length
def upN(p:List Zc)(v:Nat):Nat:=(p.filter fun c=>decide (c.1=0∧Ze v c < 0)).length
def Zgb(p:List Zc)(v:Nat):Nat:=ZjW p v*upN p v
def Zd2(p:List Zc)(n:Nat):Nat:=(List.range n).foldl (fun b v=>if Zgb p v≤Zgb p b then v else b) 0
def Zbb(p:List Zc)(n:Int):Int:=if 0≤(Zg3 p).1 then (Zg3 p).1 else if 0≤(Zg3 p).2 then (Zg3 p).2 else (Zd2 p n.toNat:Nat)
def pieceN(p:List Zc)(n:Int):Prop:=p.length≤400∧(∀ c∈p,Zd c=true∧(c.2.2.1.length:Int)=n)∧0≤n∧n≤12
abbrev ZaC.fn(x:List Zc×Int×Unit):Int:=Zbb x.1 x.2.1
abbrev ZaC.pre(x:List Zc×Int×Unit):Prop:=pieceN x.1 x.2.1
abbrev Zac.fn(x:List Zc×Int×Unit):Int:=Zbb x.1 x.2.1
abbrev Zac.pre(x:List Zc×Int×Unit):Prop:=pieceN x.1 x.2.1
def ZeA(v:Nat)(p:List Zc)(e:Int)(i:Nat):Int :=
 if Ze v (p.getD i Za)≠0∧(p.getD i Za).1=1∧(e < 0∨Zbh (Ze v (p.getD i Za)) < Zbh (Ze v (p.getD e.toNat Za))) then (i:Int) else e
def eqI(v:Nat)(p:List Zc):Int:=(List.range p.length).foldl (ZeA v p) (-1)
def Zmw(v:Nat)(e c:Zc):Zc:=(c.1,c.2.1*Zbh (Ze v e),ZcF (Zbh (Ze v e)) (ZaN v c) (Ze v c*(if Ze v e < 0 then 1 else -1)) (ZaN v e))
def ZcT(v:Nat)(p:List Zc)(i:Nat):List Zc :=
 ((Zbx Za p).filter fun jc=>decide (jc.1≠i)).map (fun jc=>if Ze v jc.2=0 then Zdn v jc.2 else Zmw v (p.getD i Za) jc.2) ++
   (if 1 < Zbh (Ze v (p.getD i Za)) then [(2,Zbh (Ze v (p.getD i Za)),ZaN v (p.getD i Za))] else [])
def Zb1(v:Nat)(p:List Zc):List Zc:=(p.filter fun c=>decide (Ze v c=0)).map (Zdn v)
def Zu(v:Nat)(p:List Zc):List Zc:=p.filter fun c=>decide (Ze v c≠0)
def Zb8(v:Nat)(p:List Zc):List Zc:=p.filter fun c=>decide (Ze v c≠0∧c.1≠1∧c.1≠2∧0 < Ze v c)
def upP(v:Nat)(p:List Zc):List Zc:=p.filter fun c=>decide (Ze v c≠0∧c.1≠1∧c.1≠2∧¬ 0 < Ze v c)
def Zgn(v:Nat)(p:List Zc):List Zc:=p.filter fun c=>decide (Ze v c≠0∧c.1=2)
def ZhP(v:Nat)(p:List Zc):Bool:=(Zgn v p).isEmpty&&(Zb8 v p).all fun x=>(upP v p).all fun y=>decide (Ze v x=1∨Ze v y=-1)
def Znq(v:Nat)(x y:Zc):Zc:=(0,0,ZcF (Ze v x) (ZaN v y) (-Ze v y) (ZaN v x))
def Zj1(v:Nat)(p:List Zc):List Zc:=Zb1 v p++(Zb8 v p).flatMap fun x=>(upP v p).map (Znq v x)
def ZbJ(v:Nat)(p:List Zc):Int×Int:=ZiH ((Zu v p).map fun c=>Zbh (Ze v c))
def Zca(v:Nat)(l:Int)(c:Zc):Int:=l.tdiv (Zbh (Ze v c))
def Zfs(v:Nat)(p:List Zc)(l:Int):Int×Int:=ZiH (l::((Zu v p).filter fun c=>decide (c.1=2)).map fun c=>c.2.1*Zca v l c)
def ZnA(n:Int):Int:=if n < 0 then -1 else 1
def ZjU(v:Nat)(l:Int)(c:Zc):Lin:=((ZaN v c).1.map fun n=>Zca v l c*n,Zca v l c*(ZaN v c).2)
def ZvZ(v:Nat)(l:Int)(w:Lin)(c:Zc):Zc:=(c.1,c.2.1*Zca v l c,ZcF 1 (ZjU v l c) (ZnA (Ze v c)) w)
def Zfw(v:Nat)(p:List Zc)(l:Int)(w:Lin)(all:Bool):List Zc:=Zb1 v p++((Zu v p).filter fun c=>all||decide (c.1=2)).map (ZvZ v l w)++[(2,l,w)]
def Zg2(v:Nat)(p:List Zc):Bool:=decide ((Zb8 v p).length≤(upP v p).length)
def Zd0(v:Nat)(l:Int)(c:Zc)(low:Bool)(j:Nat):Lin:=if low then ((ZjU v l c).1.map fun n=>-1*n,-1*(ZjU v l c).2+j) else ((ZjU v l c).1,(ZjU v l c).2+-j)
def Znh(v:Nat)(p:List Zc):List Zc:=(Zu v p).filter fun c=>decide (c.1≠2∧decide (0 < Ze v c)=Zg2 v p)
def Zch(v:Nat)(p:List Zc)(n:Nat)(l:Int)(d:Nat):List (List Zc) :=
 if Zb8 v p=[]∨upP v p=[] then (List.range d).map fun (j:Nat)=>Zfw v p l (List.replicate n 0,(j:Int)) false
 else (Znh v p).flatMap fun c=>(List.range d).map fun j=>Zfw v p l (Zd0 v l c (Zg2 v p) j) true
def Zc9(p:List Zc)(n v:Nat):Option (List (List Zc)) :=
 if 0≤eqI v p then some [ZcT v p (eqI v p).toNat]
 else if Zgn v p=[]∧(Zb8 v p=[]∨upP v p=[]) then some [Zb1 v p]
 else if ZhP v p=true then some [Zj1 v p]
 else if (ZbJ v p).2≠0 then none
 else if (Zfs v p (ZbJ v p).1).2≠0 then none
 else some (Zch v p (n - 1) (ZbJ v p).1 (Zfs v p (ZbJ v p).1).1.toNat)
def ZeH(l:List (List Zc)):List (List Zc)×Int:=match ZdX l with
 | none=>([],3)
 | some out=>(out,0)
def ZT(p:List Zc)(n v:Int):List (List Zc)×Int:=match Zc9 p n.toNat v.toNat with
 | none=>([],3)
 | some l=>ZeH l
abbrev ZY.fn(x:List Zc×Int×Int×Unit):List (List Zc)×Int:=ZT x.1 x.2.1 x.2.2.1
abbrev ZY.pre(x:List Zc×Int×Int×Unit):Prop:=pieceN x.1 x.2.1∧0≤x.2.2.1∧x.2.2.1 < x.2.1
abbrev Zae.fn(x:List Zc×Int×Int×Unit):List (List Zc)×Int:=ZT x.1 x.2.1 x.2.2.1
abbrev Zae.pre(x:List Zc×Int×Int×Unit):Prop:=ZY.pre x
abbrev ZL.fn(x:List (List Zc)×Unit):List (List Zc)×Int:=ZeH x.1
abbrev ZL.pre(x:List (List Zc)×Unit):Prop:=ZU.pre x
def Zxf(n:Nat)(c:Zc):Prop:=(-1048576≤c.2.1∧c.2.1≤1048576)∧Zdf c.2.2∧c.2.2.1.length=n
abbrev Zai.fn(x:Zc×Int×Int×Int×Lin×Unit):Zc:=(x.1.1,x.1.2.1*x.2.2.1,ZcF x.2.2.1 (ZaN x.2.1.toNat x.1) (Ze x.2.1.toNat x.1*x.2.2.2.1) x.2.2.2.2.1)
abbrev Zai.pre(x:Zc×Int×Int×Int×Lin×Unit):Prop:=(∃ n,Zxf n x.1∧n≤4096∧x.2.2.2.2.1.1.length+1=n∧0≤x.2.1∧x.2.1 < (n:Int))∧(-1048576≤Ze x.2.1.toNat x.1∧Ze x.2.1.toNat x.1≤1048576)∧(-1048576≤x.2.2.1∧x.2.2.1≤1048576)∧(x.2.2.2.1=1∨x.2.2.2.1=-1)∧Zdf x.2.2.2.2.1
abbrev Zaf.fn(x:List Zc×Int×Int×Unit):List Zc:=ZcT x.2.2.1.toNat x.1 x.2.1.toNat
abbrev Zaf.pre(x:List Zc×Int×Int×Unit):Prop:=(∃ n,pieceN x.1 n∧0≤x.2.2.1∧x.2.2.1 < n)∧0≤x.2.1∧x.2.1 < (x.1.length:Int)∧Ze x.2.2.1.toNat (x.1.getD x.2.1.toNat Za)≠0
def Zwc(p free:List Zc)(v:Nat):List (List Zc)×Int :=
 if (ZbJ v p).2≠0 then ([],3) else if (Zfs v p (ZbJ v p).1).2≠0 then ([],3)
 else ZeH (Zch v p ((p.getD 0 Za).2.2.1.length - 1) (ZbJ v p).1 (Zfs v p (ZbJ v p).1).1.toNat)
abbrev Zz.fn(x:List Zc×List Zc×Int×Unit):List (List Zc)×Int:=Zwc x.1 x.2.1 x.2.2.1.toNat
abbrev Zz.pre(x:List Zc×List Zc×Int×Unit):Prop:=(∃ n,pieceN x.1 n∧0≤x.2.2.1∧x.2.2.1 < n)∧x.2.1=Zb1 x.2.2.1.toNat x.1∧Zu x.2.2.1.toNat x.1≠[]∧∀ c∈Zu x.2.2.1.toNat x.1,c.1≠1
def Zqk(k:Nat)(q:Part):Prop:=(-1048576≤q.1.2.1∧q.1.2.1≤1048576)∧(-1048576≤q.2.1∧q.2.1≤1048576)∧Zdf q.2.2∧q.2.2.1.length=k
def PcB(k:Nat)(x:Pc):Prop:=x.2.1.length≤400∧(x.2.2.1.length≤400∧∀ q∈x.2.2.1,Zqk k q)∧(x.2.2.2.2.1.length≤400∧∀ q∈x.2.2.2.2.1,Zqk k q)∧(x.2.2.2.2.2.1.length≤400∧∀ q∈x.2.2.2.2.2.1,Zqk k q)
def Zuz(e q:Part):Zc:=(q.1.1,Zbh e.2.1*q.1.2.1,ZcF (Zbh e.2.1) q.2.2 ((if e.2.1 < 0 then 1 else -1)*q.2.1) e.2.2)
def ZeZ(x:Pc):List Zc:=x.2.1++((Zbx Zcd x.2.2.1).filter fun jq=>decide ((jq.1:Int)≠x.2.2.2.1)).map (fun jq=>Zuz (x.2.2.1.getD x.2.2.2.1.toNat Zcd) jq.2) ++
 (if 1 < Zbh (x.2.2.1.getD x.2.2.2.1.toNat Zcd).2.1 then [(2,Zbh (x.2.2.1.getD x.2.2.2.1.toNat Zcd).2.1,(x.2.2.1.getD x.2.2.2.1.toNat Zcd).2.2)] else [])
abbrev ZD.fn(x:Pc×Unit):List (List Zc):=[ZeZ x.1]
abbrev ZD.pre(x:Pc×Unit):Prop:=(∃ k,PcB k x.1)∧0≤x.1.2.2.2.1∧x.1.2.2.2.1 < (x.1.2.2.1.length:Int)
abbrev ZA.fn(x:Pc×Unit):List (List Zc):=[x.1.2.1++x.1.2.2.2.2.1.flatMap fun l=>x.1.2.2.2.2.2.1.map fun u=>(0,0,ZcF l.2.1 u.2.2 (-u.2.1) l.2.2)]
abbrev ZA.pre(x:Pc×Unit):Prop:=∃ k,PcB k x.1
abbrev Zp.fn(x:Pc×Int×Lin×Bool×Unit):List Zc:=x.1.2.1++(x.1.2.2.1.filter fun q=>x.2.2.2.1||decide (q.1.1=2)).map (fun q=>(q.1.1,q.1.2.1,ZcF 1 q.2.2 (q.2.1.tdiv x.2.1) x.2.2.1))++[(2,x.2.1,x.2.2.1)]
abbrev Zp.pre(x:Pc×Int×Lin×Bool×Unit):Prop:=(∃ k,PcB k x.1∧x.2.2.1.1.length=k)∧x.2.1≠0∧Zdf x.2.2.1
def ZlG(n v:Int)(l:List (List Zc)):Option (List (List Zc)):=l.foldlM (fun all p=>if (ZT p n v).2≠0 then none else some (all++(ZT p n v).1)) []
def Zjb(s:ZbZ)(v:Int):ZbZ×Int:=if Zr s=false then ((0,[]),1) else if v < 0∨s.1≤v then ((0,[]),6) else if (Zaa s).2≠0 then ((0,[]),(Zaa s).2) else match ZlG s.1 v (Zaa s).1.2 with
 | none=>((0,[]),3)
 | some all=>ZfJ (s.1 - 1) (ZdX all)
abbrev Zbz.fn(x:ZbZ×Int×Unit):ZbZ×Int:=Zjb x.1 x.2.1
def ZdC(f:List Zc→Bool×Int):List (List Zc)→Bool×Int
 | []=>(false,0)
 | p::l=>if (f p).1=true∨(f p).2≠0 then f p else ZdC f l
def Zb0:Nat→List Zc→Bool×Int
 | 0,_=>(true,0)
 | n+1,p=>if (ZT p (n+1:Nat) (Zbb p (n+1:Nat))).2≠0 then (false,(ZT p (n+1:Nat) (Zbb p (n+1:Nat))).2) else ZdC (Zb0 n) (ZT p (n+1:Nat) (Zbb p (n+1:Nat))).1
abbrev Zs.fn(x:List Zc×Int×Unit):Bool×Int:=Zb0 x.2.1.toNat x.1
abbrev Zs.pre(x:List Zc×Int×Unit):Prop:=pieceN x.1 x.2.1
abbrev Zs.preN(N:Nat)(x:List Zc×Int×Unit):Prop:=pieceN x.1 x.2.1∧x.2.1 < (N:Int)
def Zdx(s:ZbZ):Bool×Int:=if Zr s=false then (false,1) else if (Zaa s).2≠0 then (false,(Zaa s).2) else
 if (ZdC (Zb0 s.1.toNat) (Zaa s).1.2).1=true∨(ZdC (Zb0 s.1.toNat) (Zaa s).1.2).2≠0 then (false,(ZdC (Zb0 s.1.toNat) (Zaa s).1.2).2) else (true,0)
abbrev Za2.fn(x:ZbZ×Unit):Bool×Int:=Zdx x.1
abbrev Zbc.fn(x:ZbZ×Unit):Bool×Int:=Zdx x.1
def ZsZ(m:ByteArray→Option Bool):Prop:=∀ p n b,m (Zce (ZcN p))=some b→pieceN p n→1≤n→Zb0 n.toNat p=(b,0)
def ZkA(a:List Zc×Int)(m:ByteArray→Option Bool):Prop:=pieceN a.1 a.2∧ZsZ m
def Zeu(N:Nat)(a:List Zc×Int)(m:ByteArray→Option Bool):Prop:=ZkA a m∧a.2 < (N:Int)
def ZdE(a:List Zc×Int)(m:ByteArray→Option Bool)(r:Bool×Int)(m':ByteArray→Option Bool):Prop:=r=(if (Zb0 a.2.toNat a.1).2≠0 then (false,(Zb0 a.2.toNat a.1).2) else Zb0 a.2.toNat a.1)∧ZsZ m'
def ZO.wp(x0:Int)(x1:Lin)(x2:Int)(x3:Lin)(Q:Lin→Prop):Prop:=(((0:Int)≤((List.length x1.1:Nat):Int)∧(((List.length x1.1:Nat):Int)≤((List.length x1.1:Nat):Int)∧((((List.length x1.1:Nat):Int)*((8:Nat):Int))≤(140737488355328:Int)∧((List.length x1.1:Nat):Int)≤(9223372036854775807:Int))))∧(Zm IntKind.i64 (x0*x1.2)∧(Zm IntKind.i64 (x2*x3.2)∧(Zm IntKind.i64 ((x0*x1.2)+(x2*x3.2))∧Lp (σ:=Int×List Int) (fun y5 R5=>let v2:=List.getD x1.1 (Int.toNat y5.1) (0:Int);let v3:=List.getD x3.1 (Int.toNat y5.1) (0:Int);cond (decide (y5.1 < ((List.length x1.1:Nat):Int))) (((0:Int)≤y5.1∧y5.1 < ((List.length x1.1:Nat):Int))∧(Zm IntKind.i64 (x0*v2)∧(((0:Int)≤y5.1∧y5.1 < ((List.length x3.1:Nat):Int))∧(Zm IntKind.i64 (x2*v3)∧(Zm IntKind.i64 ((x0*v2)+(x2*v3))∧(((0:Int)≤y5.1∧y5.1 < ((List.length y5.2:Nat):Int))∧(Int.toNat y5.1 < List.length y5.2∧(Zm IntKind.i64 (y5.1+(1:Int))∧R5 ((y5.1+(1:Int)),(List.set y5.2 (Int.toNat y5.1) ((x0*v2)+(x2*v3)))))))))))) (Q (y5.2,((x0*x1.2)+(x2*x3.2))))) ((0:Int),(List.replicate (Int.toNat ((List.length x1.1:Nat):Int)) (0:Int)))))))
def Zau.wp(x0:Lin)(x1:Int)(Q:Lin→Prop):Prop:=((List.length x0.1*8)≤140737488355328∧(Zm IntKind.i64 (x0.2+x1)∧Q (x0.1,(x0.2+x1))))
def ZaC.wp(x0:List Zc)(x1:Int)(Q:Int→Prop):Prop:=let v0:=List.replicate (Int.toNat x1) (0:Int);(((0:Int)≤x1∧(x1≤x1∧((x1*((8:Nat):Int))≤(140737488355328:Int)∧x1≤(9223372036854775807:Int))))∧(((0:Int)≤x1∧(x1≤x1∧((x1*((8:Nat):Int))≤(140737488355328:Int)∧x1≤(9223372036854775807:Int))))∧Lp (σ:=Int×Int×Int×(List Int)×List Int) (fun y3 R3=>let v1:=List.getD x0 (Int.toNat y3.1) Za;cond (decide (y3.1 < ((List.length x0:Nat):Int))) (((0:Int)≤y3.1∧y3.1 < ((List.length x0:Nat):Int))∧Lp (σ:=Int×Int×Int×(List Int)×List Int) (fun y5 R5=>let v2:=List.getD v1.2.2.1 (Int.toNat y5.1) (0:Int);let v3:=List.getD y5.2.2.2.1 (Int.toNat y5.1) (0:Int);let v5:=List.getD y5.2.2.2.2 (Int.toNat y5.1) (0:Int);cond (decide (y5.1 < ((List.length v1.2.2.1:Nat):Int))) (((0:Int)≤y5.1∧y5.1 < ((List.length v1.2.2.1:Nat):Int))∧cond (v2 == (0:Int)) (Zm IntKind.i64 (y5.1+(1:Int))∧R5 ((y5.1+(1:Int)),y5.2)) (cond (v1.1 == (1:Int)) (((!(v2 == (1:Int)))=true→((!(v2 == (1:Int)))=true∧True))∧(((v2 == (1:Int))=false→(!(v2 == (1:Int)))=true)∧cond ((v2 == (1:Int))||(v2 == (-(1:Int)))) (Zm IntKind.i64 (y5.1+(1:Int))∧R5 ((y5.1+(1:Int)),(Max.max y5.2.1 y5.1,(Max.max y5.2.2.1 y5.1,y5.2.2.2)))) (Zm IntKind.i64 (y5.1+(1:Int))∧R5 ((y5.1+(1:Int)),(y5.2.1,(Max.max y5.2.2.1 y5.1,y5.2.2.2)))))) (((v1.1 == (0:Int))=true→((v1.1 == (0:Int))=true∧True))∧(((v1.1 == (0:Int))=true→(v1.1 == (0:Int))=true)∧cond ((v1.1 == (0:Int))&&decide ((0:Int) < v2)) (((0:Int)≤y5.1∧y5.1 < ((List.length y5.2.2.2.1:Nat):Int))∧(Int.toNat y5.1 < List.length y5.2.2.2.1∧(Zm IntKind.i64 (v3+(1:Int))∧(((0:Int)≤y5.1∧y5.1 < ((List.length y5.2.2.2.1:Nat):Int))∧(Int.toNat y5.1 < List.length y5.2.2.2.1∧(Zm IntKind.i64 (y5.1+(1:Int))∧R5 ((y5.1+(1:Int)),(y5.2.1,(y5.2.2.1,((List.set y5.2.2.2.1 (Int.toNat y5.1) (v3+(1:Int))),y5.2.2.2.2)))))))))) (cond (v1.1 == (0:Int)) (((0:Int)≤y5.1∧y5.1 < ((List.length y5.2.2.2.2:Nat):Int))∧(Int.toNat y5.1 < List.length y5.2.2.2.2∧(Zm IntKind.i64 (v5+(1:Int))∧(((0:Int)≤y5.1∧y5.1 < ((List.length y5.2.2.2.2:Nat):Int))∧(Int.toNat y5.1 < List.length y5.2.2.2.2∧(Zm IntKind.i64 (y5.1+(1:Int))∧R5 ((y5.1+(1:Int)),(y5.2.1,(y5.2.2.1,(y5.2.2.2.1,(List.set y5.2.2.2.2 (Int.toNat y5.1) (v5+(1:Int))))))))))))) (Zm IntKind.i64 (y5.1+(1:Int))∧R5 ((y5.1+(1:Int)),y5.2))))))) (Zm IntKind.i64 (y3.1+(1:Int))∧R3 ((y3.1+(1:Int)),y5.2))) ((0:Int),y3.2)) (cond (decide ((0:Int)≤y3.2.1)) (Q y3.2.1) (cond (decide ((0:Int)≤y3.2.2.1)) (Q y3.2.2.1) (Lp (σ:=Int×Int) (fun y5 R5=>let v7:=List.getD y3.2.2.2.1 (Int.toNat y5.1) (0:Int);let v8:=List.getD y3.2.2.2.2 (Int.toNat y5.1) (0:Int);let v9:=List.getD y3.2.2.2.1 (Int.toNat y5.2) (0:Int);let v10:=List.getD y3.2.2.2.2 (Int.toNat y5.2) (0:Int);cond (decide (y5.1 < x1)) (((0:Int)≤y5.1∧y5.1 < ((List.length y3.2.2.2.1:Nat):Int))∧(Int.toNat y5.1 < List.length y3.2.2.2.1∧(((0:Int)≤y5.1∧y5.1 < ((List.length y3.2.2.2.2:Nat):Int))∧(Int.toNat y5.1 < List.length y3.2.2.2.2∧(Zm IntKind.i64 (v7*v8)∧(((0:Int)≤y5.2∧y5.2 < ((List.length y3.2.2.2.1:Nat):Int))∧(Int.toNat y5.2 < List.length y3.2.2.2.1∧(((0:Int)≤y5.2∧y5.2 < ((List.length y3.2.2.2.2:Nat):Int))∧(Int.toNat y5.2 < List.length y3.2.2.2.2∧(Zm IntKind.i64 (v9*v10)∧cond (decide ((v7*v8)≤(v9*v10))) (Zm IntKind.i64 (y5.1+(1:Int))∧R5 ((y5.1+(1:Int)),y5.1)) (Zm IntKind.i64 (y5.1+(1:Int))∧R5 ((y5.1+(1:Int)),y5.2)))))))))))) (Q y5.2)) ((0:Int),(0:Int)))))) ((0:Int),((-(1:Int)),((-(1:Int)),(v0,v0))))))
def ZD.wp(x0:Int×(List Zc)×(List (Zc×Int×Lin))×Int×(List (Zc×Int×Lin))×(List (Zc×Int×Lin))×(List (Zc×Int×Lin)))(Q:(List (List Zc))→Prop):Prop:=let v0:=List.getD x0.2.2.1 (Int.toNat x0.2.2.2.1) (Za,((0:Int),(([]:List Int),(0:Int))));let v5:=List.length ([]:List (Zc));(((0:Int)≤x0.2.2.2.1∧x0.2.2.2.1 < ((List.length x0.2.2.1:Nat):Int))∧Zod (σ:=Int×Int×Bool×Int) (fun y2=>let v4:=[((2:Int),(y2.1,v0.2.2))];∀ b3:Bool,((b3=true→x0.2.1=([]:List (Zc)))→cond b3 (Lp (σ:=Int×List (Zc)) (fun y4 R4=>let v1:=List.getD x0.2.2.1 (Int.toNat y4.1) (Za,((0:Int),(([]:List Int),(0:Int))));let v3:=[(v1.1.1,((y2.1*v1.1.2.1),(ZO.fn (y2.1,(v1.2.2,(((-y2.2.1)*v1.2.1),(v0.2.2,())))))))];cond (decide (y4.1 < ((List.length x0.2.2.1:Nat):Int))) (((0:Int)≤y4.1∧y4.1 < ((List.length x0.2.2.1:Nat):Int))∧cond (y4.1 != x0.2.2.2.1) (Zm IntKind.i64 (y2.1*v1.1.2.1)∧(Zm IntKind.i64 (-y2.2.1)∧(Zm IntKind.i64 ((-y2.2.1)*v1.2.1)∧(ZO.pre (y2.1,(v1.2.2,(((-y2.2.1)*v1.2.1),(v0.2.2,()))))∧((((List.length y4.2+List.length v3)*48)≤140737488355328∧(List.length y4.2+List.length v3)≤9223372036854775807)∧(Zm IntKind.i64 (y4.1+(1:Int))∧R4 ((y4.1+(1:Int)),(y4.2++v3)))))))) (Zm IntKind.i64 (y4.1+(1:Int))∧R4 ((y4.1+(1:Int)),y4.2))) (cond (decide ((1:Int) < y2.1)) ((((List.length y4.2+List.length v4)*48)≤140737488355328∧(List.length y4.2+List.length v4)≤9223372036854775807)∧Q ([(y4.2++v4)])) (Q [y4.2]))) ((0:Int),([]:List (Zc)))) ((((v5+List.length x0.2.1)*48)≤140737488355328∧(v5+List.length x0.2.1)≤9223372036854775807)∧Lp (σ:=Int×List (Zc)) (fun y4 R4=>let v1:=List.getD x0.2.2.1 (Int.toNat y4.1) (Za,((0:Int),(([]:List Int),(0:Int))));let v3:=[(v1.1.1,((y2.1*v1.1.2.1),(ZO.fn (y2.1,(v1.2.2,(((-y2.2.1)*v1.2.1),(v0.2.2,())))))))];cond (decide (y4.1 < ((List.length x0.2.2.1:Nat):Int))) (((0:Int)≤y4.1∧y4.1 < ((List.length x0.2.2.1:Nat):Int))∧cond (y4.1 != x0.2.2.2.1) (Zm IntKind.i64 (y2.1*v1.1.2.1)∧(Zm IntKind.i64 (-y2.2.1)∧(Zm IntKind.i64 ((-y2.2.1)*v1.2.1)∧(ZO.pre (y2.1,(v1.2.2,(((-y2.2.1)*v1.2.1),(v0.2.2,()))))∧((((List.length y4.2+List.length v3)*48)≤140737488355328∧(List.length y4.2+List.length v3)≤9223372036854775807)∧(Zm IntKind.i64 (y4.1+(1:Int))∧R4 ((y4.1+(1:Int)),(y4.2++v3)))))))) (Zm IntKind.i64 (y4.1+(1:Int))∧R4 ((y4.1+(1:Int)),y4.2))) (cond (decide ((1:Int) < y2.1)) ((((List.length y4.2+List.length v4)*48)≤140737488355328∧(List.length y4.2+List.length v4)≤9223372036854775807)∧Q ([(y4.2++v4)])) (Q [y4.2]))) ((0:Int),(([]:List (Zc))++x0.2.1))))) (fun J2=>cond (decide (v0.2.1 < (0:Int))) (Zm IntKind.i64 (-v0.2.1)∧J2 ((-v0.2.1),((-(1:Int)),(decide (v0.2.1 < (0:Int)),v0.2.1)))) (J2 (v0.2.1,((1:Int),(decide (v0.2.1 < (0:Int)),v0.2.1))))))
def ZA.wp(x0:Int×(List Zc)×(List (Zc×Int×Lin))×Int×(List (Zc×Int×Lin))×(List (Zc×Int×Lin))×(List (Zc×Int×Lin)))(Q:(List (List Zc))→Prop):Prop:=let v0:=List.length x0.2.2.2.2.1;let v1:=List.length x0.2.2.2.2.2.1;let v6:=List.length ([]:List (Zc));∀ b2:Bool,((b2=true→x0.2.1=([]:List (Zc)))→cond b2 (Lp (σ:=Int×List (Zc)) (fun y3 R3=>let v3:=List.getD x0.2.2.2.2.1 (Int.toNat y3.1) (Za,((0:Int),(([]:List Int),(0:Int))));cond (decide (y3.1 < ((v0:Nat):Int))) (((0:Int)≤y3.1∧y3.1 < ((v0:Nat):Int))∧Lp (σ:=Int×List (Zc)) (fun y5 R5=>let v2:=List.getD x0.2.2.2.2.2.1 (Int.toNat y5.1) (Za,((0:Int),(([]:List Int),(0:Int))));let v5:=[((0:Int),((0:Int),(ZO.fn (v3.2.1,(v2.2.2,((-v2.2.1),(v3.2.2,())))))))];cond (decide (y5.1 < ((v1:Nat):Int))) (((0:Int)≤y5.1∧y5.1 < ((v1:Nat):Int))∧(Zm IntKind.i64 (-v2.2.1)∧(ZO.pre (v3.2.1,(v2.2.2,((-v2.2.1),(v3.2.2,()))))∧((((List.length y5.2+List.length v5)*48)≤140737488355328∧(List.length y5.2+List.length v5)≤9223372036854775807)∧(Zm IntKind.i64 (y5.1+(1:Int))∧R5 ((y5.1+(1:Int)),(y5.2++v5))))))) (Zm IntKind.i64 (y3.1+(1:Int))∧R3 ((y3.1+(1:Int)),y5.2))) ((0:Int),y3.2)) (Q [y3.2])) ((0:Int),([]:List (Zc)))) ((((v6+List.length x0.2.1)*48)≤140737488355328∧(v6+List.length x0.2.1)≤9223372036854775807)∧Lp (σ:=Int×List (Zc)) (fun y3 R3=>let v3:=List.getD x0.2.2.2.2.1 (Int.toNat y3.1) (Za,((0:Int),(([]:List Int),(0:Int))));cond (decide (y3.1 < ((v0:Nat):Int))) (((0:Int)≤y3.1∧y3.1 < ((v0:Nat):Int))∧Lp (σ:=Int×List (Zc)) (fun y5 R5=>let v2:=List.getD x0.2.2.2.2.2.1 (Int.toNat y5.1) (Za,((0:Int),(([]:List Int),(0:Int))));let v5:=[((0:Int),((0:Int),(ZO.fn (v3.2.1,(v2.2.2,((-v2.2.1),(v3.2.2,())))))))];cond (decide (y5.1 < ((v1:Nat):Int))) (((0:Int)≤y5.1∧y5.1 < ((v1:Nat):Int))∧(Zm IntKind.i64 (-v2.2.1)∧(ZO.pre (v3.2.1,(v2.2.2,((-v2.2.1),(v3.2.2,()))))∧((((List.length y5.2+List.length v5)*48)≤140737488355328∧(List.length y5.2+List.length v5)≤9223372036854775807)∧(Zm IntKind.i64 (y5.1+(1:Int))∧R5 ((y5.1+(1:Int)),(y5.2++v5))))))) (Zm IntKind.i64 (y3.1+(1:Int))∧R3 ((y3.1+(1:Int)),y5.2))) ((0:Int),y3.2)) (Q [y3.2])) ((0:Int),(([]:List (Zc))++x0.2.1))))
def Zp.wp(x0:Int×(List Zc)×(List (Zc×Int×Lin))×Int×(List (Zc×Int×Lin))×(List (Zc×Int×Lin))×(List (Zc×Int×Lin)))(x1:Int)(x2:Lin)(x3:Bool)(Q:(List Zc)→Prop):Prop:=let v3:=List.length ([((2:Int),(x1,x2))]);let v4:=List.length ([]:List (Zc));∀ b5:Bool,((b5=true→x0.2.1=([]:List (Zc)))→cond b5 (Lp (σ:=Int×List (Zc)) (fun y6 R6=>let v0:=List.getD x0.2.2.1 (Int.toNat y6.1) (Za,((0:Int),(([]:List Int),(0:Int))));let v2:=[(v0.1.1,(v0.1.2.1,(ZO.fn ((1:Int),(v0.2.2,(Int.tdiv v0.2.1 x1,(x2,())))))))];cond (decide (y6.1 < ((List.length x0.2.2.1:Nat):Int))) (((0:Int)≤y6.1∧y6.1 < ((List.length x0.2.2.1:Nat):Int))∧(((!x3)=true→((!x3)=true∧True))∧(((!x3)=true→((!x3)=true∧True))∧(((!x3)=true→((!x3)=true∧True))∧((x3=false→(!x3)=true)∧cond (x3||(v0.1.1 == (2:Int))) ((x1≠(0:Int)∧Zm IntKind.i64 (Int.tdiv v0.2.1 x1))∧(ZO.pre ((1:Int),(v0.2.2,(Int.tdiv v0.2.1 x1,(x2,()))))∧((((List.length y6.2+List.length v2)*48)≤140737488355328∧(List.length y6.2+List.length v2)≤9223372036854775807)∧(Zm IntKind.i64 (y6.1+(1:Int))∧R6 ((y6.1+(1:Int)),(y6.2++v2)))))) (Zm IntKind.i64 (y6.1+(1:Int))∧R6 ((y6.1+(1:Int)),y6.2))))))) ((((List.length y6.2+v3)*48)≤140737488355328∧(List.length y6.2+v3)≤9223372036854775807)∧Q (y6.2++[((2:Int),(x1,x2))]))) ((0:Int),([]:List (Zc)))) ((((v4+List.length x0.2.1)*48)≤140737488355328∧(v4+List.length x0.2.1)≤9223372036854775807)∧Lp (σ:=Int×List (Zc)) (fun y6 R6=>let v0:=List.getD x0.2.2.1 (Int.toNat y6.1) (Za,((0:Int),(([]:List Int),(0:Int))));let v2:=[(v0.1.1,(v0.1.2.1,(ZO.fn ((1:Int),(v0.2.2,(Int.tdiv v0.2.1 x1,(x2,())))))))];cond (decide (y6.1 < ((List.length x0.2.2.1:Nat):Int))) (((0:Int)≤y6.1∧y6.1 < ((List.length x0.2.2.1:Nat):Int))∧(((!x3)=true→((!x3)=true∧True))∧(((!x3)=true→((!x3)=true∧True))∧(((!x3)=true→((!x3)=true∧True))∧((x3=false→(!x3)=true)∧cond (x3||(v0.1.1 == (2:Int))) ((x1≠(0:Int)∧Zm IntKind.i64 (Int.tdiv v0.2.1 x1))∧(ZO.pre ((1:Int),(v0.2.2,(Int.tdiv v0.2.1 x1,(x2,()))))∧((((List.length y6.2+List.length v2)*48)≤140737488355328∧(List.length y6.2+List.length v2)≤9223372036854775807)∧(Zm IntKind.i64 (y6.1+(1:Int))∧R6 ((y6.1+(1:Int)),(y6.2++v2)))))) (Zm IntKind.i64 (y6.1+(1:Int))∧R6 ((y6.1+(1:Int)),y6.2))))))) ((((List.length y6.2+v3)*48)≤140737488355328∧(List.length y6.2+v3)≤9223372036854775807)∧Q (y6.2++[((2:Int),(x1,x2))]))) ((0:Int),(([]:List (Zc))++x0.2.1))))
def ZaI.wp(x0:Int)(x1:Int)(Q:Int→Prop):Prop:=let v0:=IntKind.wrap IntKind.u64 x1;let v1:=Zal.fn (x0,(v0,()));(((!(decide ((512:Int) < x0)))=true→((!(decide ((512:Int) < x0)))=true∧True))∧(((!(decide ((512:Int) < x0)))=true→((!(decide ((512:Int) < x0)))=true∧True))∧((decide ((512:Int) < x0)=false→(!(decide ((512:Int) < x0)))=true)∧cond (decide ((512:Int) < x0)||decide ((512:Int) < v0)) (Q (513:Int)) (v1≠(0:Int)∧Q (IntKind.wrap IntKind.u64 ((IntKind.wrap IntKind.u64 (Int.tdiv x0 v1))*v0))))))
def ZM.wp(x0:List Int)(Q:Int×Int→Prop):Prop:=let v1:=ZG.fn (x0,((1:Int),((fun (a4:Int×Int)=>ZaI.pre (a4.1,(a4.2,())),fun (a4:Int×Int)=>ZaI.fn (a4.1,(a4.2,()))),())));Lp (σ:=Int) (fun y2 R2=>cond (decide (y2 < ((List.length x0:Nat):Int))) (((0:Int)≤y2∧y2 < ((List.length x0:Nat):Int))∧cond (decide ((List.getD x0 (Int.toNat y2) (0:Int)) < (1:Int))) (Q ((0:Int),(1:Int))) (Zm IntKind.i64 (y2+(1:Int))∧R2 (y2+(1:Int)))) (ZG.pre (x0,((1:Int),((fun (a4:Int×Int)=>ZaI.pre (a4.1,(a4.2,())),fun (a4:Int×Int)=>ZaI.fn (a4.1,(a4.2,()))),())))∧cond (decide ((512:Int) < v1)) (Q ((0:Int),(3:Int))) (Zm IntKind.i64 v1∧Q (v1,(0:Int))))) (0:Int)
def ZaG.wp(x0:List Int)(Q:Int×Int→Prop):Prop:=Lp (σ:=Int) (fun y2 R2=>cond (decide (y2 < ((List.length x0:Nat):Int))) (((0:Int)≤y2∧y2 < ((List.length x0:Nat):Int))∧cond (decide ((List.getD x0 (Int.toNat y2) (0:Int)) < (1:Int))) (Q ((0:Int),(1:Int))) (Zm IntKind.i64 (y2+(1:Int))∧R2 (y2+(1:Int)))) (Lp (σ:=Int) (fun y4 R4=>cond (decide (y4≤(512:Int))) (Lp (σ:=Int×Bool) (fun y6 R6=>let v1:=List.getD x0 (Int.toNat y6.1) (0:Int);cond (decide (y6.1 < ((List.length x0:Nat):Int))) (((0:Int)≤y6.1∧y6.1 < ((List.length x0:Nat):Int))∧((y6.2=true→(y6.2=true∧(y6.2=true∧v1≠(0:Int))))∧((y6.2=true→(y6.2=true∧True))∧((y6.2=true→y6.2=true)∧(Zm IntKind.i64 (y6.1+(1:Int))∧R6 ((y6.1+(1:Int)),(y6.2&&(Int.tmod y4 v1 == (0:Int))))))))) (cond y6.2 (Q (y4,(0:Int))) (Zm IntKind.i64 (y4+(1:Int))∧R4 (y4+(1:Int))))) ((0:Int),true)) (Q ((0:Int),(3:Int)))) (1:Int))) (0:Int)
def Zo.wp(x0:Int)(Q:Int→Prop):Prop:=(Zm IntKind.i64 (-x0)∧Q (Max.max x0 (-x0)))
def ZX.wp(x0:Int)(x1:Int)(Q:Lin→Prop):Prop:=(((0:Int)≤x0∧(x0≤x0∧((x0*((8:Nat):Int))≤(140737488355328:Int)∧x0≤(9223372036854775807:Int))))∧Q ((List.replicate (Int.toNat x0) (0:Int)),x1))
def Zai.wp(x0:Zc)(x1:Int)(x2:Int)(x3:Int)(x4:Lin)(Q:Zc→Prop):Prop:=let v0:=List.getD x0.2.2.1 (Int.toNat x1) (0:Int);let v1:=Zn.fn (x0.2.2,(x1,()));(Zn.pre (x0.2.2,(x1,()))∧(Zm IntKind.i64 (x0.2.1*x2)∧(((0:Int)≤x1∧x1 < ((List.length x0.2.2.1:Nat):Int))∧(Zm IntKind.i64 (v0*x3)∧(Zw.pre (x2,(v1,((v0*x3),(x4,()))))∧Q (x0.1,((x0.2.1*x2),(Zw.fn (x2,(v1,((v0*x3),(x4,()))))))))))))
theorem ZO.spec(a:Int)(l:Lin)(b:Int)(m:Lin)(hp:ZO.pre (a,l,b,m,())):ZO.wp a l b m (fun r=>r=ZO.fn (a,l,b,m,())):=Zw.spec a l b m hp
theorem Zau.spec(l:Lin)(k:Int)(hp:Zau.pre (l,k,())):Zau.wp l k (fun r=>r=Zau.fn (l,k,())):=by
 obtain⟨⟨h1,h2,h3⟩,h4,h5⟩:=hp
 simp only at h1 h2 h3 h4 h5
 exact⟨by omega,⟨by omega,by omega⟩,rfl⟩
theorem Zo.spec(n:Int)(hp:Zo.pre (n,())):Zo.wp n (fun r=>r=Zo.fn (n,())):=by
 obtain⟨h1,h2⟩:=hp
 simp only at h1 h2
 exact⟨⟨by omega,by omega⟩,rfl⟩
theorem ZX.spec(n k:Int)(hp:ZX.pre (n,k,())):ZX.wp n k (fun r=>r=ZX.fn (n,k,())):=by
 obtain⟨h1,h2⟩:=hp
 simp only at h1 h2
 exact⟨⟨h1,Int.le_refl _,by omega,by omega⟩,rfl⟩
theorem Zyj(l:List Int):∀ m:Nat,l.foldl (fun m n=>Nat.lcm m n.natAbs) m=Nat.lcm m (Zgk l):=by
 induction l with
 | nil=>intro m;simp[Zgk]
 | cons n l ih =>
   intro m
   have h0:Zgk (n::l)=Nat.lcm n.natAbs (Zgk l):=by
    show (n::l).foldl _ 1=_
    rw[List.foldl_cons,ih,Nat.lcm_one_left]
   rw[List.foldl_cons,ih,h0,Nat.lcm_assoc]
theorem ZgF(n:Int)(l:List Int):Zgk (n::l)=Nat.lcm n.natAbs (Zgk l):=by
 show (n::l).foldl _ 1=_
 rw[List.foldl_cons,Zyj,Nat.lcm_one_left]
theorem ZlY{l:List Int}(h:∀ n∈l,1≤n):1≤Zgk l:=by
 induction l with
 | nil=>simp[Zgk]
 | cons n l ih =>
   rw[ZgF]
   have h1:=h n (by simp)
   exact Nat.lcm_pos (by omega) (ih fun m hm=>h m (List.mem_cons_of_mem _ hm))
theorem Zil{l:List Int}{n:Int}(h:n∈l):n ∣ (Zgk l:Int):=by
 induction l with
 | nil=>simp at h
 | cons m l ih =>
   rw[ZgF]
   rcases List.mem_cons.1 h with rfl | h
   ·exact Int.natAbs_dvd.1 (Int.natCast_dvd_natCast.2 (Nat.dvd_lcm_left _ _))
   ·exact Int.dvd_trans (ih h) (Int.natCast_dvd_natCast.2 (Nat.dvd_lcm_right _ _))
theorem Zth{l:List Int}{m:Nat}(h:∀ n∈l,n ∣ (m:Int)):Zgk l ∣ m:=by
 induction l with
 | nil=>simp[Zgk]
 | cons n l ih =>
   rw[ZgF]
   exact Nat.lcm_dvd (Int.ofNat_dvd_right.1 (h n (by simp))) (ih fun m hm=>h m (List.mem_cons_of_mem _ hm))
theorem Zj9(l:List Int):(ZiH l).2=1∨(ZiH l).2=3∨((ZiH l).2=0∧(∀ n∈l,1≤n)∧(ZiH l).1=(Zgk l:Int)∧Zgk l≤512):=by
 unfold ZiH
 split
 ·exact .inl rfl
 ·rename_i h
  split
  ·exact .inr (.inl rfl)
  ·refine .inr (.inr ⟨rfl,fun n hn=>?_,rfl,by omega⟩)
   simp only[List.any_eq_true,decide_eq_true_eq,not_exists,not_and,Int.not_lt] at h
   exact h n hn
theorem ZlK{n:Nat}(h:n≤9223372036854775807):IntKind.wrap .u64 (n:Int)=(n:Int):=by
 simp only[IntKind.wrap,IntKind.bits,IntKind.signed]
 simp;omega
theorem ZaI.spec(g n:Int)(hp:ZaI.pre (g,n,())):ZaI.wp g n (fun r=>r=ZaI.fn (g,n,())):=by
 obtain⟨h1,h2⟩:=hp
 simp only at h1 h2
 have e:IntKind.wrap .u64 n=n:=by
  have:=ZlK (n:=n.toNat) (by omega)
  rwa [Int.toNat_of_nonneg (by omega)] at this
 simp only[ZaI.wp,ZaI.fn,e]
 by_cases hg:(512:Int) < g
 ·simp[hg]
 ·simp only[decide_eq_false hg,Bool.not_false,forall_const,true_and,Bool.false_or]
  by_cases hn:(512:Int) < n
  ·simp[hn]
  ·simp only[decide_eq_false hn,cond_false]
   refine⟨?_,by simp⟩
   unfold Zal.fn
   simp only
   rw[if_neg (by omega)]
   split
   ·omega
   ·intro h0
    have:Nat.gcd g.toNat n.toNat=0:=by omega
    rw[Nat.gcd_eq_zero_iff] at this
    omega
def ZuH(g n:Int):Int:=ZaI.fn (g,n,())
theorem Zre {m : Nat} {g n : Int} (hm : 1 ≤ m) (hn : 1 ≤ n) (hn2 : n ≤ 9223372036854775807) (hg : (m ≤ 512 ∧ g = (m : Int)) ∨ (512 < m ∧ 512 < g ∧ g ≤ 262144)) :
 (Nat.lcm m n.natAbs≤512∧ZuH g n=(Nat.lcm m n.natAbs:Int))∨(512 < Nat.lcm m n.natAbs∧512 < ZuH g n∧ZuH g n≤262144):=by
 have e:IntKind.wrap .u64 n=n:=by
  have:=ZlK (n:=n.toNat) (by omega)
  rwa [Int.toNat_of_nonneg (by omega)] at this
 have hna:(n.natAbs:Int)=n:=by omega
 have hpos:1≤Nat.lcm m n.natAbs:=Nat.lcm_pos (by omega) (by omega)
 have hle1:m≤Nat.lcm m n.natAbs:=Nat.le_of_dvd hpos (Nat.dvd_lcm_left _ _)
 have hle2:n.natAbs≤Nat.lcm m n.natAbs:=Nat.le_of_dvd hpos (Nat.dvd_lcm_right _ _)
 unfold ZuH ZaI.fn
 simp only[e]
 rcases hg with ⟨h1,rfl⟩ | ⟨h1,h2,h3⟩
 ·by_cases hb:(512:Int) < n
  ·rw[if_pos (by simp[hb])]
   exact .inr ⟨by omega,by omega,by omega⟩
  ·rw[if_neg (by simp;omega)]
   have hc:Zal.fn ((m:Int),n,())=(Nat.gcd m n.natAbs:Nat):=by
    unfold Zal.fn
    simp only
    rw[if_neg (by omega),if_neg (by omega)]
    congr 2
    omega
   have hgp:0 < Nat.gcd m n.natAbs:=Nat.gcd_pos_of_pos_left _ (by omega)
   have hdiv:Int.tdiv (m:Int) ((Nat.gcd m n.natAbs:Nat):Int)=((m / Nat.gcd m n.natAbs:Nat):Int):=by
    rw[Int.tdiv_eq_ediv_of_nonneg (by omega)];rfl
   have hlc:m / Nat.gcd m n.natAbs*n.natAbs=Nat.lcm m n.natAbs:=by
    rw[Nat.lcm,Nat.div_mul_right_comm (Nat.gcd_dvd_left _ _)]
   have hq:m / Nat.gcd m n.natAbs≤m:=Nat.div_le_self _ _
   have hl:Nat.lcm m n.natAbs≤262144:=by
    rw[← hlc]
    have:=Nat.mul_le_mul (show m / Nat.gcd m n.natAbs≤512 by omega) (show n.natAbs≤512 by omega)
    omega
   rw[hc,hdiv,ZlK (n:=m / Nat.gcd m n.natAbs) (by omega),← hna,show ((m / Nat.gcd m (n.natAbs:Int).natAbs:Nat):Int)*((n.natAbs:Nat):Int)=((m / Nat.gcd m n.natAbs*n.natAbs:Nat):Int) from by rw[Int.natAbs_natCast];push_cast;rfl,Int.natAbs_natCast,hlc,ZlK (n:=Nat.lcm m n.natAbs) (by omega)]
   by_cases hs:Nat.lcm m n.natAbs≤512
   ·exact .inl ⟨hs,rfl⟩
   ·exact .inr ⟨by omega,by omega,by omega⟩
 ·rw[if_pos (by simp;omega)]
  exact .inr ⟨by omega,by omega,by omega⟩
theorem Zsy {l : List Int} (h : ∀ n ∈ l, 1 ≤ n ∧ n ≤ 9223372036854775807) : ∀ {m : Nat} {g : Int}, 1 ≤ m → ((m ≤ 512 ∧ g = (m : Int)) ∨ (512 < m ∧ 512 < g ∧ g ≤ 262144)) →
 (Nat.lcm m (Zgk l)≤512∧l.foldl ZuH g=(Nat.lcm m (Zgk l):Int))∨(512 < Nat.lcm m (Zgk l)∧512 < l.foldl ZuH g∧l.foldl ZuH g≤262144):=by
 induction l with
 | nil=>intro m g hm hg;simpa[Zgk] using hg
 | cons n l ih =>
   intro m g hm hg
   have hn:=h n (by simp)
   rw[List.foldl_cons,ZgF,← Nat.lcm_assoc]
   exact ih (fun k hk=>h k (List.mem_cons_of_mem _ hk)) (Nat.lcm_pos (by omega) (by omega)) (Zre hm hn.1 hn.2 hg)
theorem ZM.spec(l:List Int)(hl:l.length≤9223372036854775807)(hp:ZM.pre (l,())):ZM.wp l (fun r=>r=ZM.fn (l,())):=by
 have hb:Zdd l:=hp
 have hfn:ZM.fn (l,())=ZiH l:=rfl
 simp only[ZM.wp,hfn]
 have hany:(l.all fun n=>!decide (n < 1))=!(l.any fun n=>decide (n < 1)):=by simp[List.all_eq_not_any_not]
 refine Lp.all l 0 (fun n=>!decide (n < 1)) hl (fun i R hi hi' hf h1 h2=>?_) (fun R hall=>?_)
 ·simp only[decide_eq_true hi',Int.toNat_natCast,cond_true]
  refine⟨⟨by omega,hi'⟩,?_⟩
  cases hd:decide (l.getD i 0 < 1) with
  | true =>
    simp only[cond_true]
    have:=h2 (by rw[hd];rfl)
    rw[hany] at this
    unfold ZiH
    rw[if_pos (by simpa using this)]
  | false=>exact⟨hf,h1 (by rw[hd];rfl)⟩
 ·simp only[Int.lt_irrefl,decide_false,cond_false]
  rw[hany] at hall
  have hall':(l.any fun n=>decide (n < 1))=false:=by simpa using hall
  have hpos:∀ n∈l,1≤n:=fun n hn=>by
   rw[List.any_eq_false] at hall'
   have:=hall' n hn
   simp at this;omega
  have hfold:ZG.fn (l,((1:Int),((fun (a4:Int×Int)=>ZaI.pre (a4.1,a4.2,()),fun (a4:Int×Int)=>ZaI.fn (a4.1,(a4.2,()))),())))=l.foldl ZuH 1:=rfl
  refine⟨fun g n hn=>⟨hpos n hn,(hb n hn).2⟩,?_⟩
  rw[hfold]
  have key:=Zsy (fun n hn=>⟨hpos n hn,(hb n hn).2⟩) (m:=1) (g:=1) (by omega) (.inl ⟨by omega,rfl⟩)
  rw[Nat.lcm_one_left] at key
  have hF:ZiH l=if 512 < Zgk l then ((0:Int),(3:Int)) else (((Zgk l:Nat):Int),0):=by
   unfold ZiH;rw[if_neg (by rw[hall'];simp)]
  rw[hF]
  rcases key with ⟨h1,h2⟩ | ⟨h1,h2,h3⟩
  ·rw[h2,decide_eq_false (by omega),if_neg (by omega)]
   exact⟨⟨by omega,by omega⟩,rfl⟩
  ·rw[decide_eq_true h2,if_pos h1]
   rfl
theorem ZaG.spec(l:List Int)(hl:l.length≤9223372036854775807)(hp:ZaG.pre (l,())):ZaG.wp l (fun r=>r=ZaG.fn (l,())):=by
 have hfn:ZaG.fn (l,())=ZiH l:=rfl
 simp only[ZaG.wp,hfn]
 have hany:(l.all fun n=>!decide (n < 1))=!(l.any fun n=>decide (n < 1)):=by simp[List.all_eq_not_any_not]
 refine Lp.all l 0 (fun n=>!decide (n < 1)) hl (fun i R hi hi' hf h1 h2=>?_) (fun R hall=>?_)
 ·simp only[decide_eq_true hi',Int.toNat_natCast,cond_true]
  refine⟨⟨by omega,hi'⟩,?_⟩
  cases hd:decide (l.getD i 0 < 1) with
  | true =>
    simp only[cond_true]
    have:=h2 (by rw[hd];rfl)
    rw[hany] at this
    unfold ZiH
    rw[if_pos (by simpa using this)]
  | false=>exact⟨hf,h1 (by rw[hd];rfl)⟩
 ·simp only[Int.lt_irrefl,decide_false,cond_false]
  rw[hany] at hall
  have hall':(l.any fun n=>decide (n < 1))=false:=by simpa using hall
  have hpos:∀ n∈l,1≤n:=fun n hn=>by
   rw[List.any_eq_false] at hall'
   have:=hall' n hn
   simp at this;omega
  have hF:ZiH l=if 512 < Zgk l then ((0:Int),(3:Int)) else (((Zgk l:Nat):Int),0):=by
   unfold ZiH;rw[if_neg (by rw[hall'];simp)]
  rw[hF]
  have hLp:=ZlY hpos
  have hsm:∀ m:Nat,1≤m→m < Zgk l→(l.all fun n=>Int.tmod (m:Int) n == 0)=false:=fun m hm hlt=>by
   cases e:l.all fun n=>Int.tmod (m:Int) n == 0 with
   | false=>rfl
   | true =>
     rw[List.all_eq_true] at e
     have:=Nat.le_of_dvd hm (Zth fun n hn=>Int.dvd_of_tmod_eq_zero (by simpa using e n hn))
     omega
  obtain⟨N,hN⟩:∃ N:Nat,N=513:=⟨_,rfl⟩
  refine Lp.iter N (fun k (y:Int)=>y=(k:Int)+1∧k < Zgk l) ⟨rfl,by omega⟩ ?_
  intro k y hk hI R1 hR
  have hy:y=(k:Int)+1:=hI.1
  have hkl:k < Zgk l:=hI.2
  clear hI
  by_cases h512:k+1≤512
  ·simp only[hy,decide_eq_true (show ((k:Int)+1)≤512 by omega),cond_true]
   refine Lp.iter l.length (fun i (z:Int×Bool)=>z=((i:Int),(l.take i).all fun n=>Int.tmod ((k:Int)+1) n == 0)) (by simp) ?_
   rintro i z hi rfl R2 hR2
   by_cases hil:i < l.length
   ·have hi':(i:Int) < (l.length:Int):=by omega
    have hd:l.getD i 0≠0:=by have:=hpos _ (Zi (d:=0) hil);omega
    simp only[decide_eq_true hi',Int.toNat_natCast,cond_true]
    refine⟨⟨by omega,hi'⟩,fun h=>⟨h,h,hd⟩,fun h=>⟨h,trivial⟩,fun h=>h,⟨by omega,by omega⟩,hR2 hil _ ?_⟩
    have ht:l.take (i+1)=l.take i++[l.getD i 0]:=by
     rw[List.take_add_one,List.getElem?_eq_getElem hil,ZN hil];rfl
    rw[ht,List.all_append]
    simp
   ·have:i=l.length:=by omega
    subst this
    simp only[Int.lt_irrefl,decide_false,cond_false,List.take_length]
    cases e:l.all fun n=>Int.tmod ((k:Int)+1) n == 0 with
    | true =>
      simp only[cond_true]
      have:¬ k+1 < Zgk l:=fun hlt=>by
       have:=hsm (k+1) (by omega) hlt
       rw[show ((k+1:Nat):Int)=(k:Int)+1 from rfl,e] at this;cases this
      rw[if_neg (by omega)]
      have:Zgk l=k+1:=by omega
      rw[this];rfl
    | false =>
      simp only[cond_false]
      refine⟨⟨by omega,by omega⟩,hR (by omega) _ ⟨by push_cast;omega,?_⟩⟩
      apply Classical.byContradiction
      intro hge
      have hk1:Zgk l=k+1:=by omega
      rw[List.all_eq_false] at e
      obtain⟨n,hn,hne⟩:=e
      have:=Zil hn
      rw[hk1] at this
      apply hne
      simp only[beq_iff_eq]
      exact Int.tmod_eq_zero_of_dvd this
  ·simp only[hy,decide_eq_false (show ¬ ((k:Int)+1)≤512 by omega),cond_false]
   rw[if_pos (by omega)]
def Zac.wp(x0:List Zc)(x1:Int)(Q:Int→Prop):Prop:=Lp (σ:=Int×Int×Int) (fun y3 R3=>let v0:=List.getD x0 (Int.toNat y3.1) Za;cond (decide (y3.1 < ((List.length x0:Nat):Int))) (((0:Int)≤y3.1∧y3.1 < ((List.length x0:Nat):Int))∧cond (v0.1 != (1:Int)) (Zm IntKind.i64 (y3.1+(1:Int))∧R3 ((y3.1+(1:Int)),y3.2)) (Lp (σ:=Int×Int×Int) (fun y5 R5=>let v1:=List.getD v0.2.2.1 (Int.toNat y5.1) (0:Int);cond (decide (y5.1 < ((List.length v0.2.2.1:Nat):Int))) (((0:Int)≤y5.1∧y5.1 < ((List.length v0.2.2.1:Nat):Int))∧cond (v1 != (0:Int)) (Zo.pre (v1,())∧cond (Zo.fn (v1,()) == (1:Int)) (Zm IntKind.i64 (y5.1+(1:Int))∧R5 ((y5.1+(1:Int)),(Max.max y5.2.1 y5.1,Max.max y5.2.2 y5.1))) (Zm IntKind.i64 (y5.1+(1:Int))∧R5 ((y5.1+(1:Int)),(y5.2.1,Max.max y5.2.2 y5.1)))) (Zo.pre (v1,())∧cond (Zo.fn (v1,()) == (1:Int)) (Zm IntKind.i64 (y5.1+(1:Int))∧R5 ((y5.1+(1:Int)),(Max.max y5.2.1 y5.1,y5.2.2))) (Zm IntKind.i64 (y5.1+(1:Int))∧R5 ((y5.1+(1:Int)),y5.2)))) (Zm IntKind.i64 (y3.1+(1:Int))∧R3 ((y3.1+(1:Int)),y5.2))) ((0:Int),y3.2))) (cond (decide ((0:Int)≤y3.2.1)) (Q y3.2.1) (cond (decide ((0:Int)≤y3.2.2)) (Q y3.2.2) (Lp (σ:=Int×Int×Int) (fun y5 R5=>cond (decide (y5.1 < x1)) (Lp (σ:=Int×Int×Int) (fun y7 R7=>let v2:=List.getD x0 (Int.toNat y7.1) Za;let v3:=List.getD v2.2.2.1 (Int.toNat y5.1) (0:Int);cond (decide (y7.1 < ((List.length x0:Nat):Int))) (((0:Int)≤y7.1∧y7.1 < ((List.length x0:Nat):Int))∧(((!(v2.1 != (0:Int)))=true→((!(v2.1 != (0:Int)))=true∧True))∧(((!(v2.1 != (0:Int)))=true→((!(v2.1 != (0:Int)))=true∧True))∧(((!(v2.1 != (0:Int)))=true→((!(v2.1 != (0:Int)))=true∧((!(v2.1 != (0:Int)))=true∧((0:Int)≤y5.1∧y5.1 < ((List.length v2.2.2.1:Nat):Int)))))∧(((!(v2.1 != (0:Int)))=true→((!(v2.1 != (0:Int)))=true∧True))∧(((!(v2.1 != (0:Int)))=true→((!(v2.1 != (0:Int)))=true∧True))∧(((v2.1 != (0:Int))=false→(!(v2.1 != (0:Int)))=true)∧cond ((v2.1 != (0:Int))||(v3 == (0:Int))) (Zm IntKind.i64 (y7.1+(1:Int))∧R7 ((y7.1+(1:Int)),y7.2)) (((0:Int)≤y5.1∧y5.1 < ((List.length v2.2.2.1:Nat):Int))∧cond (decide ((0:Int) < v3)) (Zm IntKind.i64 (y7.2.1+(1:Int))∧(Zm IntKind.i64 (y7.1+(1:Int))∧R7 ((y7.1+(1:Int)),((y7.2.1+(1:Int)),y7.2.2)))) (Zm IntKind.i64 (y7.2.2+(1:Int))∧(Zm IntKind.i64 (y7.1+(1:Int))∧R7 ((y7.1+(1:Int)),(y7.2.1,(y7.2.2+(1:Int)))))))))))))) (((!(decide (y5.2.1 < (0:Int))))=true→((!(decide (y5.2.1 < (0:Int))))=true∧((!(decide (y5.2.1 < (0:Int))))=true∧Zm IntKind.i64 (y7.2.1*y7.2.2))))∧(((!(decide (y5.2.1 < (0:Int))))=true→((!(decide (y5.2.1 < (0:Int))))=true∧((!(decide (y5.2.1 < (0:Int))))=true∧True)))∧((decide (y5.2.1 < (0:Int))=false→(!(decide (y5.2.1 < (0:Int))))=true)∧cond (decide (y5.2.1 < (0:Int))||decide ((y7.2.1*y7.2.2)≤y5.2.1)) (Zm IntKind.i64 (y7.2.1*y7.2.2)∧(Zm IntKind.i64 (y5.1+(1:Int))∧R5 ((y5.1+(1:Int)),((y7.2.1*y7.2.2),y5.1)))) (Zm IntKind.i64 (y5.1+(1:Int))∧R5 ((y5.1+(1:Int)),y5.2)))))) ((0:Int),((0:Int),(0:Int)))) (Q y5.2.2)) ((0:Int),((-(1:Int)),(0:Int))))))) ((0:Int),((-(1:Int)),(-(1:Int))))
theorem Zd5{n j:Nat}{f:Nat→Int}(h:j < n):((List.range n).map f).getD j 0=f j:=by
 rw[List.getD_eq_getElem?_getD,List.getElem?_map,List.getElem?_range h];rfl
theorem ZgP{n j:Nat}{f g:Nat→Int}(h:∀ i,i≠j→f i=g i):((List.range n).map f).set j (g j)=(List.range n).map g:=by
 apply List.ext_getElem (by simp)
 intro i h1 h2
 simp only[List.getElem_set,List.getElem_map,List.getElem_range]
 split
 ·rename_i e;rw[e]
 ·rename_i e;exact h i (fun e'=>e e'.symm)
theorem Zdt{n:Nat}{f g:Nat→Int}(h:∀ i,i < n→f i=g i):(List.range n).map f=(List.range n).map g:=by
 apply List.map_congr_left
 intro i hi
 exact h i (List.mem_range.1 hi)
theorem Zfg{α:Type}(d:α)(l:List α):(Zbx d l).length=l.length:=by simp[Zbx]
theorem Zhf{α:Type}(d:α)(l:List α){i:Nat}(h:i < l.length):(Zbx d l).take (i+1)=(Zbx d l).take i++[(i,l.getD i d)]:=by
 have h':i < (Zbx d l).length:=by rw[Zfg];exact h
 rw[List.take_add_one,List.getElem?_eq_getElem h']
 simp[Zbx]
theorem ZbP{α:Type}{l:List α}{d:α}{i:Nat}(h:i < l.length):l.take (i+1)=l.take i++[l.getD i d]:=by
 rw[List.take_add_one,List.getElem?_eq_getElem h,ZN h];rfl
def ZcX(st:Int×Int)(ia:Nat×Int):Int×Int:=if ia.2=0 then st else (if ia.2=1∨ia.2=-1 then max st.1 (ia.1:Int) else st.1,max st.2 (ia.1:Int))
theorem Zsq(l:List Int)(st:Int×Int):Zu5 l st=(Zbx 0 l).foldl ZcX st:=rfl
def Zml(st:Int×Int)(c:Zc):Int×Int:=if c.1=1 then Zu5 c.2.2.1 st else st
theorem Zmi(p:List Zc):Zg3 p=p.foldl Zml (-1,-1):=rfl
theorem Zmu(p:List Zc)(c:Zc)(v:Nat):ZjW (p++[c]) v=ZjW p v+if c.1=0∧0 < Ze v c then 1 else 0:=by
 unfold ZjW
 rw[List.filter_append,List.length_append]
 congr 1
 by_cases h:c.1=0∧0 < Ze v c
 ·simp[h]
 ·rw[if_neg h];simp[h]
theorem Zpm(p:List Zc)(c:Zc)(v:Nat):upN (p++[c]) v=upN p v+if c.1=0∧Ze v c < 0 then 1 else 0:=by
 unfold upN
 rw[List.filter_append,List.length_append]
 congr 1
 by_cases h:c.1=0∧Ze v c < 0
 ·simp[h]
 ·rw[if_neg h];simp[h]
theorem ZlQ(p:List Zc)(v:Nat):ZjW p v≤p.length:=List.length_filter_le _ _
theorem Zo9(p:List Zc)(v:Nat):upN p v≤p.length:=List.length_filter_le _ _
theorem ZmL(p:List Zc)(i v:Nat):ZjW (p.take i) v≤p.length:=Nat.le_trans (ZlQ _ _) (by rw[List.length_take];omega)
theorem ZoQ(p:List Zc)(i v:Nat):upN (p.take i) v≤p.length:=Nat.le_trans (Zo9 _ _) (by rw[List.length_take];omega)
def ZjX(p:List Zc)(b v:Nat):Nat:=if Zgb p v≤Zgb p b then v else b
theorem Ztr(p:List Zc)(n:Nat):Zd2 p n=(List.range n).foldl (ZjX p) 0:=rfl
theorem Zfq(p:List Zc)(n:Nat):Zd2 p (n+1)=ZjX p (Zd2 p n) n:=by
 rw[Ztr,List.range_succ,List.foldl_append];rfl
theorem ZlU(p:List Zc):∀ n:Nat,0 < n→Zd2 p n < n
 | 0,h=>absurd h (by omega)
 | 1,_=>by
   rw[Zfq]
   have:Zd2 p 0=0:=rfl
   rw[this];unfold ZjX;split<;>omega
 | n+2,_=>by
   rw[Zfq]
   have:=ZlU p (n+1) (by omega)
   unfold ZjX;split<;>omega
theorem ZsX{a b:Nat}(ha:a≤400)(hb:b≤400):Zm .i64 ((a:Int)*(b:Int)):=by
 have h:=Nat.mul_le_mul ha hb
 have e:(a:Int)*(b:Int)=((a*b:Nat):Int):=by push_cast;rfl
 rw[e]
 exact⟨by omega,by omega⟩
theorem Zvo{N:Nat}{st:Int×Int}{ia:Nat×Int}(h:-1≤st.1∧st.1 < N∧-1≤st.2∧st.2 < N)(hi:ia.1 < N):-1≤(ZcX st ia).1∧(ZcX st ia).1 < N∧-1≤(ZcX st ia).2∧(ZcX st ia).2 < N:=by
 unfold ZcX
 split
 ·exact h
 ·refine⟨?_,?_,?_,?_⟩<;>simp only[]<;>(try split)<;>omega
theorem ZwY{N:Nat}{l:List Int}{st:Int×Int}(h:-1≤st.1∧st.1 < N∧-1≤st.2∧st.2 < N)(hl:l.length≤N):-1≤(Zu5 l st).1∧(Zu5 l st).1 < N∧-1≤(Zu5 l st).2∧(Zu5 l st).2 < N:=by
 rw[Zsq]
 have key:∀ (m:List (Nat×Int)) (st:Int×Int),(∀ x∈m,x.1 < N)→(-1≤st.1∧st.1 < N∧-1≤st.2∧st.2 < N)→-1≤(m.foldl ZcX st).1∧(m.foldl ZcX st).1 < N∧-1≤(m.foldl ZcX st).2∧(m.foldl ZcX st).2 < N:=by
  intro m
  induction m with
  | nil=>exact fun st _ h=>h
  | cons x m ih=>exact fun st hm h=>ih _ (fun y hy=>hm y (List.mem_cons_of_mem _ hy)) (Zvo h (hm x (by simp)))
 refine key _ st (fun x hx=>?_) h
 simp only[Zbx,List.mem_map,List.mem_range] at hx
 obtain⟨i,hi,rfl⟩:=hx
 simp only;omega
theorem ZvL{p:List Zc}{N:Nat}(h:∀ c∈p,c.2.2.1.length≤N):-1≤(Zg3 p).1∧(Zg3 p).1 < N∧-1≤(Zg3 p).2∧(Zg3 p).2 < N:=by
 rw[Zmi]
 have key:∀ (m:List Zc) (st:Int×Int),(∀ c∈m,c.2.2.1.length≤N)→(-1≤st.1∧st.1 < N∧-1≤st.2∧st.2 < N)→-1≤(m.foldl Zml st).1∧(m.foldl Zml st).1 < N∧-1≤(m.foldl Zml st).2∧(m.foldl Zml st).2 < N:=by
  intro m
  induction m with
  | nil=>exact fun st _ h=>h
  | cons x m ih =>
    refine fun st hm h=>ih _ (fun y hy=>hm y (List.mem_cons_of_mem _ hy)) ?_
    unfold Zml
    split
    ·exact ZwY h (hm x (by simp))
    ·exact h
 exact key p _ h ⟨by omega,by simp only;omega,by omega,by simp only;omega⟩
theorem Znn{p:List Zc}{n:Int}(h:pieceN p n)(h1:1≤n):0≤Zbb p n∧Zbb p n < n:=by
 obtain⟨_,hc,h0,h12⟩:=h
 have hb:=ZvL (p:=p) (N:=n.toNat) fun c hc'=>by have:=(hc c hc').2;omega
 have hbest:=ZlU p n.toNat (by omega)
 unfold Zbb
 split
 ·omega
 ·split
  ·omega
  ·omega
theorem ZaC.spec(p:List Zc)(n:Int)(hp:ZaC.pre (p,n,())):ZaC.wp p n (fun r=>r=ZaC.fn (p,n,())):=by
 obtain⟨h400,hc,h0,h12⟩:=hp
 simp only at h400 hc h0 h12
 have hfn:ZaC.fn (p,n,())=Zbb p n:=rfl
 simp only[ZaC.wp,hfn]
 obtain⟨N,rfl⟩:∃ N:Nat,n=(N:Int):=⟨n.toNat,by omega⟩
 simp only[Int.toNat_natCast]
 refine⟨⟨h0,Int.le_refl _,by omega,by omega⟩,⟨h0,Int.le_refl _,by omega,by omega⟩,?_⟩
 have hrep:List.replicate N (0:Int)=(List.range N).map fun v=>(ZjW (p.take 0) v:Int):=by
  apply List.ext_getElem (by simp)
  intro i h1 h2
  simp[ZjW]
 have hrep':List.replicate N (0:Int)=(List.range N).map fun v=>(upN (p.take 0) v:Int):=by
  apply List.ext_getElem (by simp)
  intro i h1 h2
  simp[upN]
 refine Lp.iter p.length (fun i z=>z=((i:Int),((p.take i).foldl Zml (-1,-1)).1,((p.take i).foldl Zml (-1,-1)).2,((List.range N).map fun v=>(ZjW (p.take i) v:Int)),((List.range N).map fun v=>(upN (p.take i) v:Int)))) (by rw[← hrep,← hrep'];rfl) ?_
 rintro i z hle rfl R hR
 by_cases e:i < p.length
 ·have e':(i:Int) < (p.length:Int):=by omega
  simp only[decide_eq_true e',Int.toNat_natCast,cond_true]
  refine⟨⟨by omega,e'⟩,?_⟩
  have hmem:=Zi (d:=Za) e
  obtain⟨c,hcc⟩:∃ c,p.getD i Za=c:=⟨_,rfl⟩
  simp only[hcc] at hmem ⊢
  obtain⟨hcv,hcl⟩:=hc c hmem
  have hcN:c.2.2.1.length=N:=by omega
  obtain⟨st,hst⟩:∃ st,(p.take i).foldl Zml (-1,-1)=st:=⟨_,rfl⟩
  simp only[hst]
  have hs1:(p.take (i+1)).foldl Zml (-1,-1)=Zml st c:=by rw[ZbP (d:=Za) e,List.foldl_append,hst,hcc];rfl
  have hlo:∀ v,ZjW (p.take (i+1)) v=ZjW (p.take i) v+if c.1=0∧0 < Ze v c then 1 else 0:=fun v=>by rw[ZbP (d:=Za) e,Zmu,hcc]
  have hup:∀ v,upN (p.take (i+1)) v=upN (p.take i) v+if c.1=0∧Ze v c < 0 then 1 else 0:=fun v=>by rw[ZbP (d:=Za) e,Zpm,hcc]
  refine Lp.iter c.2.2.1.length (fun j z=>z=((j:Int),(if c.1=1 then ((Zbx 0 c.2.2.1).take j).foldl ZcX st else st).1,(if c.1=1 then ((Zbx 0 c.2.2.1).take j).foldl ZcX st else st).2,
   ((List.range N).map fun v=>(ZjW (p.take i) v:Int)+if v < j∧c.1=0∧0 < Ze v c then 1 else 0),((List.range N).map fun v=>(upN (p.take i) v:Int)+if v < j∧c.1=0∧Ze v c < 0 then 1 else 0))) (by simp) ?_
  rintro j z hj rfl R1 hR1
  by_cases ej:j < c.2.2.1.length
  ·have ej':(j:Int) < (c.2.2.1.length:Int):=by omega
   have hjN:j < N:=by omega
   have hcoef:c.2.2.1.getD j 0=Ze j c:=rfl
   have hst1:((Zbx 0 c.2.2.1).take (j+1)).foldl ZcX st=ZcX (((Zbx 0 c.2.2.1).take j).foldl ZcX st) (j,Ze j c):=by
    rw[Zhf 0 _ ej,List.foldl_append];rfl
   have hR1':=hR1 ej _ rfl
   simp only[hst1] at hR1'
   simp only[decide_eq_true ej',Int.toNat_natCast,cond_true,hcoef]
   refine⟨⟨by omega,ej'⟩,?_⟩
   have hfj:Zm IntKind.i64 ((j:Int)+1):=⟨by omega,by omega⟩
   have hsame:∀ (f:Nat→Int) (g:Nat→Prop) [DecidablePred g],(∀ v,v=j→¬ g v)→((List.range N).map fun v=>f v+if v < j+1∧g v then 1 else 0)=((List.range N).map fun v=>f v+if v < j∧g v then (1:Int) else 0):=fun f g _ hg=>by
    apply Zdt
    intro v hv
    congr 1
    by_cases hvj:v=j
    ·have:=hg v hvj
     rw[if_neg (fun h=>this h.2),if_neg (fun h=>this h.2)]
    ·by_cases hg':g v
     ·by_cases hlt:v < j
      ·rw[if_pos ⟨by omega,hg'⟩,if_pos ⟨hlt,hg'⟩]
      ·rw[if_neg (by omega),if_neg (by omega)]
     ·rw[if_neg (fun h=>hg' h.2),if_neg (fun h=>hg' h.2)]
   by_cases ha:Ze j c=0
   ·rw[ha]
    refine⟨hfj,?_⟩
    have hx:ZcX (((Zbx 0 c.2.2.1).take j).foldl ZcX st) (j,Ze j c)=((Zbx 0 c.2.2.1).take j).foldl ZcX st:=by unfold ZcX;rw[if_pos ha]
    rw[hx,hsame _ (fun v=>c.1=0∧0 < Ze v c) (fun v hv h=>by subst hv;omega),hsame _ (fun v=>c.1=0∧Ze v c < 0) (fun v hv h=>by subst hv;omega)] at hR1'
    exact hR1'
   ·have ha':(Ze j c == 0)=false:=by simpa using ha
    rw[ha',cond_false]
    by_cases h1:c.1=1
    ·have h1':(c.1 == 1)=true:=by simpa using h1
     rw[h1',cond_true]
     rw[hsame _ (fun v=>c.1=0∧0 < Ze v c) (fun v hv h=>by omega),hsame _ (fun v=>c.1=0∧Ze v c < 0) (fun v hv h=>by omega)] at hR1'
     simp only[if_pos h1] at hR1' ⊢
     unfold ZcX at hR1'
     rw[if_neg ha] at hR1'
     refine⟨fun h=>⟨h,trivial⟩,fun h=>by rw[h];rfl,?_⟩
     by_cases hu:Ze j c=1∨Ze j c=-1
     ·rw[show ((Ze j c == 1)||(Ze j c == (-(1:Int))))=true by simpa using hu,cond_true]
      simp only[if_pos hu] at hR1'
      exact⟨hfj,hR1'⟩
     ·rw[show ((Ze j c == 1)||(Ze j c == (-(1:Int))))=false by simpa using hu,cond_false]
      simp only[if_neg hu] at hR1'
      exact⟨hfj,hR1'⟩
    ·have h1':(c.1 == 1)=false:=by simpa using h1
     rw[h1',cond_false]
     simp only[if_neg h1] at hR1' ⊢
     refine⟨fun h=>⟨h,trivial⟩,fun h=>h,?_⟩
     simp only[List.length_map,List.length_range,Zd5 hjN]
     have hlt0:(if j < j∧c.1=0∧0 < Ze j c then (1:Int) else 0)=0:=if_neg (by omega)
     have hlt1:(if j < j∧c.1=0∧Ze j c < 0 then (1:Int) else 0)=0:=if_neg (by omega)
     have hlb:=ZmL p i j
     have hub:=ZoQ p i j
     by_cases h0':c.1=0
     ·have h0b:(c.1 == 0)=true:=by simpa using h0'
      by_cases hpos:0 < Ze j c
      ·rw[h0b,decide_eq_true hpos,Bool.and_self,cond_true]
       refine⟨⟨by omega,by omega⟩,hjN,⟨by omega,by omega⟩,⟨by omega,by omega⟩,hjN,hfj,?_⟩
       rw[hsame _ (fun v=>c.1=0∧Ze v c < 0) (fun v hv h=>by subst hv;omega)] at hR1'
       rw[hlt0,Int.add_zero]
       have hset:=ZgP (n:=N) (j:=j) (f:=fun v=>(ZjW (p.take i) v:Int)+if v < j∧c.1=0∧0 < Ze v c then 1 else 0) (g:=fun v=>(ZjW (p.take i) v:Int)+if v < j+1∧c.1=0∧0 < Ze v c then 1 else 0) (fun v hv=>by
        congr 1
        by_cases hlt:v < j
        ·by_cases hx:c.1=0∧0 < Ze v c
         ·rw[if_pos ⟨hlt,hx⟩,if_pos ⟨by omega,hx⟩]
         ·rw[if_neg (fun h=>hx h.2),if_neg (fun h=>hx h.2)]
        ·rw[if_neg (by omega),if_neg (by omega)])
       simp only[if_pos (show j < j+1∧c.1=0∧0 < Ze j c from ⟨by omega,h0',hpos⟩)] at hset
       rw[hset]
       exact hR1'
      ·rw[h0b,decide_eq_false hpos,Bool.and_false,cond_false,cond_true]
       refine⟨⟨by omega,by omega⟩,hjN,⟨by omega,by omega⟩,⟨by omega,by omega⟩,hjN,hfj,?_⟩
       rw[hsame _ (fun v=>c.1=0∧0 < Ze v c) (fun v hv h=>by subst hv;omega)] at hR1'
       rw[hlt1,Int.add_zero]
       have hneg:Ze j c < 0:=by omega
       have hset:=ZgP (n:=N) (j:=j) (f:=fun v=>(upN (p.take i) v:Int)+if v < j∧c.1=0∧Ze v c < 0 then 1 else 0) (g:=fun v=>(upN (p.take i) v:Int)+if v < j+1∧c.1=0∧Ze v c < 0 then 1 else 0) (fun v hv=>by
        congr 1
        by_cases hlt:v < j
        ·by_cases hx:c.1=0∧Ze v c < 0
         ·rw[if_pos ⟨hlt,hx⟩,if_pos ⟨by omega,hx⟩]
         ·rw[if_neg (fun h=>hx h.2),if_neg (fun h=>hx h.2)]
        ·rw[if_neg (by omega),if_neg (by omega)])
       simp only[if_pos (show j < j+1∧c.1=0∧Ze j c < 0 from ⟨by omega,h0',hneg⟩)] at hset
       rw[hset]
       exact hR1'
     ·have h0b:(c.1 == 0)=false:=by simpa using h0'
      rw[h0b,Bool.false_and,cond_false,cond_false]
      rw[hsame _ (fun v=>c.1=0∧0 < Ze v c) (fun v hv h=>h0' h.1),hsame _ (fun v=>c.1=0∧Ze v c < 0) (fun v hv h=>h0' h.1)] at hR1'
      exact⟨hfj,hR1'⟩
  ·have:j=c.2.2.1.length:=by omega
   subst this
   simp only[Int.lt_irrefl,decide_false,cond_false]
   refine⟨⟨by omega,by omega⟩,hR e _ ?_⟩
   rw[hs1]
   have ht:(Zbx 0 c.2.2.1).take c.2.2.1.length=Zbx 0 c.2.2.1:=by rw[← Zfg 0,List.take_length]
   have hE:(if c.1=1 then ((Zbx 0 c.2.2.1).take c.2.2.1.length).foldl ZcX st else st)=Zml st c:=by rw[ht];rfl
   rw[hE]
   congr 4
   ·apply Zdt
    intro v hv
    rw[hlo v]
    by_cases hx:c.1=0∧0 < Ze v c
    ·rw[if_pos ⟨by omega,hx⟩,if_pos hx];push_cast;rfl
    ·rw[if_neg (fun h=>hx h.2),if_neg hx];push_cast;rfl
   ·apply Zdt
    intro v hv
    rw[hup v]
    by_cases hx:c.1=0∧Ze v c < 0
    ·rw[if_pos ⟨by omega,hx⟩,if_pos hx];push_cast;rfl
    ·rw[if_neg (fun h=>hx h.2),if_neg hx];push_cast;rfl
 ·have:i=p.length:=by omega
  subst this
  simp only[Int.lt_irrefl,decide_false,cond_false,List.take_length]
  rw[← Zmi]
  unfold Zbb
  by_cases hu:0≤(Zg3 p).1
  ·rw[decide_eq_true hu,cond_true,if_pos hu]
  ·rw[decide_eq_false hu,cond_false,if_neg hu]
   by_cases hu2:0≤(Zg3 p).2
   ·rw[decide_eq_true hu2,cond_true,if_pos hu2]
   ·rw[decide_eq_false hu2,cond_false,if_neg hu2]
    simp only[Int.toNat_natCast,List.length_map,List.length_range]
    refine Lp.iter N (fun v z=>z=((v:Int),(Zd2 p v:Int))) rfl ?_
    rintro v z hv rfl R1 hR1
    by_cases ev:v < N
    ·have hb:Zd2 p v < N:=by
      by_cases h:v=0
      ·subst h;have:Zd2 p 0=0:=rfl;omega
      ·have:=ZlU p v (by omega);omega
     simp only[decide_eq_true (show (v:Int) < (N:Int) by omega),Int.toNat_natCast,cond_true,Zd5 ev,Zd5 hb]
     have a1:=ZlQ p v
     have a2:=Zo9 p v
     have a3:=ZlQ p (Zd2 p v)
     have a4:=Zo9 p (Zd2 p v)
     have hR1':=hR1 ev _ rfl
     rw[Zfq] at hR1'
     refine⟨⟨by omega,by omega⟩,ev,⟨by omega,by omega⟩,ev,ZsX (by omega) (by omega),⟨by omega,by omega⟩,hb,⟨by omega,by omega⟩,hb,ZsX (by omega) (by omega),?_⟩
     have hcst:((ZjW p v:Int)*(upN p v:Int)≤(ZjW p (Zd2 p v):Int)*(upN p (Zd2 p v):Int))↔Zgb p v≤Zgb p (Zd2 p v):=by
      unfold Zgb
      rw[← Int.ofNat_le];push_cast;exact Iff.rfl
     by_cases hle:Zgb p v≤Zgb p (Zd2 p v)
     ·rw[decide_eq_true (hcst.2 hle),cond_true]
      unfold ZjX at hR1'
      rw[if_pos hle] at hR1'
      exact⟨⟨by omega,by omega⟩,hR1'⟩
     ·rw[decide_eq_false (fun h=>hle (hcst.1 h)),cond_false]
      unfold ZjX at hR1'
      rw[if_neg hle] at hR1'
      exact⟨⟨by omega,by omega⟩,hR1'⟩
    ·have:v=N:=by omega
     subst this
     simp only[Int.lt_irrefl,decide_false,cond_false]
theorem ZcP{c:Zc}(h:Zd c=true)(v:Nat):-1048576≤Ze v c∧Ze v c≤1048576 :=
 Zsw (P:=fun n=>-1048576≤n∧n≤1048576) (Z4.b (Zd.lin h)).2.1 (by omega)
theorem ZoK{n:Int}:Zbh n=1↔n=1∨n=-1:=by unfold Zbh;omega
theorem ZrO{n:Int}:Zbh n=0↔n=0:=by unfold Zbh;omega
theorem Zac.spec(p:List Zc)(n:Int)(hp:Zac.pre (p,n,())):Zac.wp p n (fun r=>r=Zac.fn (p,n,())):=by
 obtain⟨h400,hc,h0,h12⟩:=hp
 simp only at h400 hc h0 h12
 have hfn:Zac.fn (p,n,())=Zbb p n:=rfl
 simp only[Zac.wp,hfn,Zo.fn]
 obtain⟨N,rfl⟩:∃ N:Nat,n=(N:Int):=⟨n.toNat,by omega⟩
 refine Lp.iter p.length (fun i z=>z=((i:Int),((p.take i).foldl Zml (-1,-1)))) rfl ?_
 rintro i z hle rfl R hR
 by_cases e:i < p.length
 ·have e':(i:Int) < (p.length:Int):=by omega
  simp only[decide_eq_true e',Int.toNat_natCast,cond_true]
  refine⟨⟨by omega,e'⟩,?_⟩
  have hmem:=Zi (d:=Za) e
  obtain⟨c,hcc⟩:∃ c,p.getD i Za=c:=⟨_,rfl⟩
  simp only[hcc] at hmem ⊢
  obtain⟨hcv,hcl⟩:=hc c hmem
  have hcN:c.2.2.1.length=N:=by omega
  have hs1:(p.take (i+1)).foldl Zml (-1,-1)=Zml ((p.take i).foldl Zml (-1,-1)) c:=by rw[ZbP (d:=Za) e,List.foldl_append,hcc];rfl
  have hR':=hR e _ rfl
  rw[hs1] at hR'
  obtain⟨st,hst⟩:∃ st,(p.take i).foldl Zml (-1,-1)=st:=⟨_,rfl⟩
  simp only[hst] at hR' ⊢
  unfold Zml at hR'
  by_cases h1:c.1=1
  ·have h1b:(c.1 != 1)=false:=by simpa using h1
   rw[h1b,cond_false]
   rw[if_pos h1] at hR'
   refine Lp.iter c.2.2.1.length (fun j z=>z=((j:Int),((Zbx 0 c.2.2.1).take j).foldl ZcX st)) rfl ?_
   rintro j z hj rfl R1 hR1
   by_cases ej:j < c.2.2.1.length
   ·have ej':(j:Int) < (c.2.2.1.length:Int):=by omega
    have hst1:((Zbx 0 c.2.2.1).take (j+1)).foldl ZcX st=ZcX (((Zbx 0 c.2.2.1).take j).foldl ZcX st) (j,Ze j c):=by
     rw[Zhf 0 _ ej,List.foldl_append];rfl
    have hR1':=hR1 ej _ rfl
    rw[hst1] at hR1'
    have hcoef:c.2.2.1.getD j 0=Ze j c:=rfl
    simp only[decide_eq_true ej',Int.toNat_natCast,cond_true,hcoef]
    refine⟨⟨by omega,ej'⟩,?_⟩
    have hfj:Zm IntKind.i64 ((j:Int)+1):=⟨by omega,by omega⟩
    have hcb:=ZcP hcv j
    have hsz:Zo.pre (Ze j c,()):=⟨by show -2305843009213693952≤Ze j c;omega,by show Ze j c≤2305843009213693952;omega⟩
    obtain⟨s2,hs2⟩:∃ s2,((Zbx 0 c.2.2.1).take j).foldl ZcX st=s2:=⟨_,rfl⟩
    simp only[hs2] at hR1' ⊢
    unfold ZcX at hR1'
    by_cases ha:Ze j c=0
    ·rw[if_pos ha] at hR1'
     rw[ha] at hsz ⊢
     exact⟨hsz,hfj,hR1'⟩
    ·rw[if_neg ha] at hR1'
     rw[show (Ze j c != 0)=true by simpa using ha,cond_true]
     refine⟨hsz,?_⟩
     by_cases hu:Ze j c=1∨Ze j c=-1
     ·rw[show (Zbh (Ze j c) == 1)=true by simpa using ZoK.2 hu,cond_true]
      simp only[if_pos hu] at hR1'
      exact⟨hfj,hR1'⟩
     ·rw[show (Zbh (Ze j c) == 1)=false by simpa using fun h=>hu (ZoK.1 h),cond_false]
      simp only[if_neg hu] at hR1'
      exact⟨hfj,hR1'⟩
   ·have:j=c.2.2.1.length:=by omega
    subst this
    simp only[Int.lt_irrefl,decide_false,cond_false]
    have ht:(Zbx 0 c.2.2.1).take c.2.2.1.length=Zbx 0 c.2.2.1:=by rw[← Zfg 0,List.take_length]
    rw[ht,← Zsq]
    exact⟨⟨by omega,by omega⟩,hR'⟩
  ·have h1b:(c.1 != 1)=true:=by simpa using h1
   rw[h1b,cond_true]
   rw[if_neg h1] at hR'
   exact⟨⟨by omega,by omega⟩,hR'⟩
 ·have:i=p.length:=by omega
  subst this
  simp only[Int.lt_irrefl,decide_false,cond_false,List.take_length]
  rw[← Zmi]
  unfold Zbb
  by_cases hu:0≤(Zg3 p).1
  ·rw[decide_eq_true hu,cond_true,if_pos hu]
  ·rw[decide_eq_false hu,cond_false,if_neg hu]
   by_cases hu2:0≤(Zg3 p).2
   ·rw[decide_eq_true hu2,cond_true,if_pos hu2]
   ·rw[decide_eq_false hu2,cond_false,if_neg hu2]
    simp only[Int.toNat_natCast]
    refine Lp.iter N (fun v z=>z=((v:Int),(if v=0 then (-1:Int) else (Zgb p (Zd2 p v):Int)),(Zd2 p v:Int))) rfl ?_
    rintro v z hv rfl R1 hR1
    by_cases ev:v < N
    ·simp only[decide_eq_true (show (v:Int) < (N:Int) by omega),cond_true]
     refine Lp.iter p.length (fun i z=>z=((i:Int),(ZjW (p.take i) v:Int),(upN (p.take i) v:Int))) (by simp[ZjW,upN]) ?_
     rintro i z hi rfl R2 hR2
     by_cases e:i < p.length
     ·have e':(i:Int) < (p.length:Int):=by omega
      simp only[decide_eq_true e',Int.toNat_natCast,cond_true]
      refine⟨⟨by omega,e'⟩,?_⟩
      have hmem:=Zi (d:=Za) e
      obtain⟨c,hcc⟩:∃ c,p.getD i Za=c:=⟨_,rfl⟩
      simp only[hcc] at hmem ⊢
      obtain⟨hcv,hcl⟩:=hc c hmem
      have hlo:ZjW (p.take (i+1)) v=ZjW (p.take i) v+if c.1=0∧0 < Ze v c then 1 else 0:=by rw[ZbP (d:=Za) e,Zmu,hcc]
      have hup:upN (p.take (i+1)) v=upN (p.take i) v+if c.1=0∧Ze v c < 0 then 1 else 0:=by rw[ZbP (d:=Za) e,Zpm,hcc]
      have hcoef:c.2.2.1.getD v 0=Ze v c:=rfl
      have hR2':=hR2 e _ rfl
      rw[hlo,hup] at hR2'
      have hlb:=ZmL p i v
      have hub:=ZoQ p i v
      have hlen:(v:Int) < (c.2.2.1.length:Int):=by omega
      have hfi:Zm IntKind.i64 ((i:Int)+1):=⟨by omega,by omega⟩
      simp only[hcoef]
      refine⟨fun h=>⟨h,trivial⟩,fun h=>⟨h,trivial⟩,fun h=>⟨h,h,by omega,hlen⟩,fun h=>⟨h,trivial⟩,fun h=>⟨h,trivial⟩,fun h=>by rw[h];rfl,?_⟩
      by_cases h0':c.1=0
      ·have h0b:(c.1 != 0)=false:=by simpa using h0'
       rw[h0b,Bool.false_or]
       by_cases ha:Ze v c=0
       ·rw[show (Ze v c == 0)=true by simpa using ha,cond_true]
        rw[if_neg (by omega),if_neg (by omega)] at hR2'
        exact⟨hfi,hR2'⟩
       ·rw[show (Ze v c == 0)=false by simpa using ha,cond_false]
        refine⟨⟨by omega,hlen⟩,?_⟩
        by_cases hpos:0 < Ze v c
        ·rw[decide_eq_true hpos,cond_true]
         rw[if_pos ⟨h0',hpos⟩,if_neg (by omega)] at hR2'
         exact⟨⟨by omega,by omega⟩,hfi,by simpa using hR2'⟩
        ·rw[decide_eq_false hpos,cond_false]
         rw[if_neg (by omega),if_pos ⟨h0',by omega⟩] at hR2'
         exact⟨⟨by omega,by omega⟩,hfi,by simpa using hR2'⟩
      ·have h0b:(c.1 != 0)=true:=by simpa using h0'
       rw[h0b,Bool.true_or,cond_true]
       rw[if_neg (fun h=>h0' h.1),if_neg (fun h=>h0' h.1)] at hR2'
       exact⟨hfi,hR2'⟩
     ·have:i=p.length:=by omega
      subst this
      simp only[Int.lt_irrefl,decide_false,cond_false,List.take_length]
      have a1:=ZlQ p v
      have a2:=Zo9 p v
      have hcb:=ZsX (a:=ZjW p v) (b:=upN p v) (by omega) (by omega)
      have hR1':=hR1 ev _ rfl
      rw[Zfq] at hR1'
      simp only[if_neg (show ¬ v+1=0 by omega)] at hR1'
      refine⟨fun h=>⟨h,h,hcb⟩,fun h=>⟨h,h,trivial⟩,fun h=>by rw[h];rfl,?_⟩
      have hcst:((ZjW p v:Int)*(upN p v:Int))=(Zgb p v:Int):=by unfold Zgb;push_cast;rfl
      by_cases hv0:v=0
      ·subst hv0
       simp only[if_true]
       have hb0:ZjX p (Zd2 p 0) 0=0:=by
        have:Zd2 p 0=0:=rfl
        rw[this];unfold ZjX;split<;>rfl
       rw[hb0] at hR1'
       rw[decide_eq_true (show (-1:Int) < 0 by omega),Bool.true_or,cond_true,hcst]
       refine⟨by rw[← hcst];exact hcb,⟨by omega,by omega⟩,hR1'⟩
      ·simp only[if_neg hv0]
       rw[decide_eq_false (show ¬ (Zgb p (Zd2 p v):Int) < 0 by omega),Bool.false_or,hcst]
       by_cases hle:Zgb p v≤Zgb p (Zd2 p v)
       ·rw[decide_eq_true (by omega),cond_true]
        unfold ZjX at hR1'
        rw[if_pos hle] at hR1'
        exact⟨by rw[← hcst];exact hcb,⟨by omega,by omega⟩,hR1'⟩
       ·rw[decide_eq_false (by omega),cond_false]
        unfold ZjX at hR1'
        rw[if_neg hle] at hR1'
        exact⟨⟨by omega,by omega⟩,hR1'⟩
    ·have:v=N:=by omega
     subst this
     simp only[Int.lt_irrefl,decide_false,cond_false]
def ZL.wp(x0:List (List Zc))(Q:(List (List Zc))×Int→Prop):Prop:=let v0:=ZU.fn (x0,());(ZU.pre (x0,())∧(((!(v0.2 != (0:Int)))=true→((!(v0.2 != (0:Int)))=true∧True))∧(((!(v0.2 != (0:Int)))=true→((!(v0.2 != (0:Int)))=true∧True))∧(((v0.2 != (0:Int))=false→(!(v0.2 != (0:Int)))=true)∧cond ((v0.2 != (0:Int))||decide ((400:Int) < ((List.length v0.1:Nat):Int))) (Q (([]:List (List (Zc))),(3:Int))) (Q (v0.1,(0:Int)))))))
def Zaf.wp(x0:List Zc)(x1:Int)(x2:Int)(Q:(List Zc)→Prop):Prop:=let v0:=List.getD x0 (Int.toNat x1) Za;let v1:=List.getD v0.2.2.1 (Int.toNat x2) (0:Int);let v6:=Zn.fn (v0.2.2,(x2,()));let v8:=[((2:Int),(Zo.fn (v1,()),v6))];(((0:Int)≤x1∧x1 < ((List.length x0:Nat):Int))∧(((0:Int)≤x2∧x2 < ((List.length v0.2.2.1:Nat):Int))∧(((0:Int)≤x1∧x1 < ((List.length x0:Nat):Int))∧(Zn.pre (v0.2.2,(x2,()))∧cond (decide (v1 < (0:Int))) (Lp (σ:=Int×List (Zc)) (fun y4 R4=>let v2:=List.getD x0 (Int.toNat y4.1) Za;let v5:=[(v2.1,(v2.2.1,(Zn.fn (v2.2.2,(x2,())))))];let v7:=Zai.fn (v2,(x2,(Zo.fn (v1,()),((-(-(1:Int))),(v6,())))));cond (decide (y4.1 < ((List.length x0:Nat):Int))) (((0:Int)≤y4.1∧y4.1 < ((List.length x0:Nat):Int))∧cond (y4.1 == x1) (Zm IntKind.i64 (y4.1+(1:Int))∧R4 ((y4.1+(1:Int)),y4.2)) (((0:Int)≤x2∧x2 < ((List.length v2.2.2.1:Nat):Int))∧cond ((List.getD v2.2.2.1 (Int.toNat x2) (0:Int)) == (0:Int)) (Zn.pre (v2.2.2,(x2,()))∧((((List.length y4.2+List.length v5)*48)≤140737488355328∧(List.length y4.2+List.length v5)≤9223372036854775807)∧(Zm IntKind.i64 (y4.1+(1:Int))∧R4 ((y4.1+(1:Int)),(y4.2++v5))))) (Zo.pre (v1,())∧(Zm IntKind.i64 (-(-(1:Int)))∧(Zai.pre (v2,(x2,(Zo.fn (v1,()),((-(-(1:Int))),(v6,())))))∧((((List.length y4.2+List.length [v7])*48)≤140737488355328∧(List.length y4.2+List.length [v7])≤9223372036854775807)∧(Zm IntKind.i64 (y4.1+(1:Int))∧R4 ((y4.1+(1:Int)),(y4.2++[v7]))))))))) (Zo.pre (v1,())∧cond (decide ((1:Int) < Zo.fn (v1,()))) (Zo.pre (v1,())∧((((List.length y4.2+List.length v8)*48)≤140737488355328∧(List.length y4.2+List.length v8)≤9223372036854775807)∧Q (y4.2++v8))) (Q y4.2))) ((0:Int),([]:List (Zc)))) (Lp (σ:=Int×List (Zc)) (fun y4 R4=>let v2:=List.getD x0 (Int.toNat y4.1) Za;let v5:=[(v2.1,(v2.2.1,(Zn.fn (v2.2.2,(x2,())))))];let v9:=Zai.fn (v2,(x2,(Zo.fn (v1,()),((-(1:Int)),(v6,())))));cond (decide (y4.1 < ((List.length x0:Nat):Int))) (((0:Int)≤y4.1∧y4.1 < ((List.length x0:Nat):Int))∧cond (y4.1 == x1) (Zm IntKind.i64 (y4.1+(1:Int))∧R4 ((y4.1+(1:Int)),y4.2)) (((0:Int)≤x2∧x2 < ((List.length v2.2.2.1:Nat):Int))∧cond ((List.getD v2.2.2.1 (Int.toNat x2) (0:Int)) == (0:Int)) (Zn.pre (v2.2.2,(x2,()))∧((((List.length y4.2+List.length v5)*48)≤140737488355328∧(List.length y4.2+List.length v5)≤9223372036854775807)∧(Zm IntKind.i64 (y4.1+(1:Int))∧R4 ((y4.1+(1:Int)),(y4.2++v5))))) (Zo.pre (v1,())∧(Zm IntKind.i64 (-(1:Int))∧(Zai.pre (v2,(x2,(Zo.fn (v1,()),((-(1:Int)),(v6,())))))∧((((List.length y4.2+List.length [v9])*48)≤140737488355328∧(List.length y4.2+List.length [v9])≤9223372036854775807)∧(Zm IntKind.i64 (y4.1+(1:Int))∧R4 ((y4.1+(1:Int)),(y4.2++[v9]))))))))) (Zo.pre (v1,())∧cond (decide ((1:Int) < Zo.fn (v1,()))) (Zo.pre (v1,())∧((((List.length y4.2+List.length v8)*48)≤140737488355328∧(List.length y4.2+List.length v8)≤9223372036854775807)∧Q (y4.2++v8))) (Q y4.2))) ((0:Int),([]:List (Zc))))))))
theorem Lp.flt {α β : Type} {body : Int × List β → (Int × List β → Prop) → Prop} (l : List α) (d : α) (o : List β) (f : Nat × α → Bool) (g : Nat × α → β) (hl : l.length ≤ 9223372036854775807)
 (h:∀ (i:Nat) (t:List β) (R:Int×List β→Prop),i < l.length→(i:Int) < (l.length:Int)→Zm .i64 ((i:Int)+1)→t.length≤o.length+i→(f (i,l.getD i d)=true→R ((i:Int)+1,t++[g (i,l.getD i d)]))→(f (i,l.getD i d)=false→R ((i:Int)+1,t))→body ((i:Int),t) R)
 (h2:∀ R:Int×List β→Prop,(o++((Zbx d l).filter f).map g).length≤o.length+l.length→body ((l.length:Int),o++((Zbx d l).filter f).map g) R):Lp body (0,o):=by
 refine Lp.iter l.length (fun i y=>y=((i:Int),o++(((Zbx d l).take i).filter f).map g)) (by simp) ?_
 rintro i y hle rfl R hR
 have hlen:(o++(((Zbx d l).take i).filter f).map g).length≤o.length+i:=by
  have:=List.length_filter_le f ((Zbx d l).take i)
  rw[List.length_take] at this
  simp only[List.length_append,List.length_map];omega
 by_cases e:i < l.length
 ·have hR':=hR e _ rfl
  rw[Zhf d l e,List.filter_append] at hR'
  refine h i _ R e (by omega) ⟨by omega,by omega⟩ hlen (fun hf=>?_) (fun hf=>?_)
  ·rw[List.filter_cons_of_pos hf,List.filter_nil,List.map_append,← List.append_assoc] at hR'
   exact hR'
  ·rw[List.filter_cons_of_neg (by rw[hf];simp),List.filter_nil,List.append_nil] at hR'
   exact hR'
 ·have:i=l.length:=by omega
  subst this
  have ht:(Zbx d l).take l.length=Zbx d l:=by rw[← Zfg d,List.take_length]
  rw[ht] at hlen ⊢
  exact h2 R hlen
theorem Zsl{α:Type}(d:α)(l:List α):(Zbx d l).map (·.2)=l:=by
 apply List.ext_getElem (by simp[Zbx])
 intro i h1 h2
 simp only[Zbx,List.getElem_map,List.getElem_range]
 exact ZN h2
theorem Zef{α β:Type}(d:α)(l:List α)(f:α→Bool)(g:α→β):((Zbx d l).filter fun ix=>f ix.2).map (fun ix=>g ix.2)=(l.filter f).map g:=by
 have h:((Zbx d l).map (·.2)).filter f=l.filter f:=by rw[Zsl]
 rw[← h,List.filter_map,List.map_map]
 rfl
theorem Zsh{α:Type}{d:α}{l:List α}{ix:Nat×α}(h:ix∈Zbx d l):ix.1 < l.length∧ix.2=l.getD ix.1 d∧ix.2∈l:=by
 simp only[Zbx,List.mem_map,List.mem_range] at h
 obtain⟨i,hi,rfl⟩:=h
 exact⟨hi,rfl,Zi hi⟩
theorem Lp.flat {α β : Type} {body : Int × List β → (Int × List β → Prop) → Prop} (l : List α) (d : α) (o : List β) (g : α → List β) (hl : l.length ≤ 9223372036854775807)
 (h:∀ (i:Nat) (R:Int×List β→Prop),i < l.length→(i:Int) < (l.length:Int)→Zm .i64 ((i:Int)+1)→R ((i:Int)+1,(o++(l.take i).flatMap g)++g (l.getD i d))→body ((i:Int),o++(l.take i).flatMap g) R)
 (h2:∀ R:Int×List β→Prop,body ((l.length:Int),o++l.flatMap g) R):Lp body (0,o):=by
 refine Lp.iter l.length (fun i y=>y=((i:Int),o++(l.take i).flatMap g)) (by simp) ?_
 rintro i y hle rfl R hR
 by_cases e:i < l.length
 ·refine h i R e (by omega) ⟨by omega,by omega⟩ (hR e _ ?_)
  rw[ZbP (d:=d) e,List.flatMap_append]
  simp
 ·have:i=l.length:=by omega
  subst this
  rw[List.take_length]
  exact h2 R
theorem ZcW{α β:Type}{g:α→List β}{k:Nat}:∀ {l:List α},(∀ x∈l,(g x).length≤k)→(l.flatMap g).length≤l.length*k
 | [],_=>by simp
 | x::l,h=>by
   rw[List.flatMap_cons,List.length_append,List.length_cons,Nat.succ_mul]
   have h1:=h x (by simp)
   have h2:=ZcW (l:=l) fun y hy=>h y (List.mem_cons_of_mem _ hy)
   omega
theorem Zuo{a b:Int}(ha:-1048576≤a∧a≤1048576)(hb:-1048576≤b∧b≤1048576):-1099511627776≤a*b∧a*b≤1099511627776 :=
 ZdA (n:=1048576) (m:=1048576) (by omega) (by omega) ha.1 ha.2 hb.1 hb.2
theorem ZjQ{a:Int}(ha:-1048576≤a∧a≤1048576):-1048576≤Zbh a∧Zbh a≤1048576:=by unfold Zbh;omega
theorem ZD.spec(x:Pc)(hp:ZD.pre (x,())):ZD.wp x (fun r=>r=ZD.fn (x,())):=by
 obtain⟨⟨k,h400,⟨hpl,hpb⟩,_,_⟩,h0,h1⟩:=hp
 simp only at h400 hpl hpb h0 h1
 have hfn:ZD.fn (x,())=[ZeZ x]:=rfl
 simp only[ZD.wp,hfn]
 unfold ZeZ
 have he:x.2.2.2.1.toNat < x.2.2.1.length:=by omega
 have hmem:=Zi (d:=Zcd) he
 obtain⟨e,hee⟩:∃ e,x.2.2.1.getD x.2.2.2.1.toNat Zcd=e:=⟨_,rfl⟩
 simp only[hee] at hmem ⊢
 obtain⟨heM,hea,heL,hek⟩:=hpb e hmem
 refine⟨⟨h0,h1⟩,Zod.of (P:=fun y=>y.1=Zbh e.2.1∧-y.2.1=(if e.2.1 < 0 then 1 else -1)) ?_ ?_⟩
 ·rintro⟨size,s,b1,b2⟩ ⟨hy1,hy2⟩
  simp only at hy1 hy2
  simp only[hy1,hy2]
  have key:∀ o:List Zc,o=x.2.1→Lp (σ:=Int×List (Zc)) (fun y4 R4=>let v1:=List.getD x.2.2.1 (Int.toNat y4.1) (Za,((0:Int),(([]:List Int),(0:Int))));let v3:=[(v1.1.1,((Zbh e.2.1*v1.1.2.1),(ZO.fn (Zbh e.2.1,(v1.2.2,(((if e.2.1 < 0 then 1 else -1)*v1.2.1),(e.2.2,())))))))];cond (decide (y4.1 < ((List.length x.2.2.1:Nat):Int))) (((0:Int)≤y4.1∧y4.1 < ((List.length x.2.2.1:Nat):Int))∧cond (y4.1 != x.2.2.2.1) (Zm IntKind.i64 (Zbh e.2.1*v1.1.2.1)∧(Zm IntKind.i64 (if e.2.1 < 0 then 1 else -1)∧(Zm IntKind.i64 ((if e.2.1 < 0 then 1 else -1)*v1.2.1)∧(ZO.pre (Zbh e.2.1,(v1.2.2,(((if e.2.1 < 0 then 1 else -1)*v1.2.1),(e.2.2,()))))∧((((List.length y4.2+List.length v3)*48)≤140737488355328∧(List.length y4.2+List.length v3)≤9223372036854775807)∧(Zm IntKind.i64 (y4.1+(1:Int))∧R4 ((y4.1+(1:Int)),(y4.2++v3)))))))) (Zm IntKind.i64 (y4.1+(1:Int))∧R4 ((y4.1+(1:Int)),y4.2))) (cond (decide ((1:Int) < Zbh e.2.1)) ((((List.length y4.2+List.length [((2:Int),(Zbh e.2.1,e.2.2))])*48)≤140737488355328∧(List.length y4.2+List.length [((2:Int),(Zbh e.2.1,e.2.2))])≤9223372036854775807)∧[(y4.2++[((2:Int),(Zbh e.2.1,e.2.2))])]=[x.2.1++((Zbx Zcd x.2.2.1).filter fun jq=>decide ((jq.1:Int)≠x.2.2.2.1)).map (fun jq=>Zuz e jq.2)++(if 1 < Zbh e.2.1 then [(2,Zbh e.2.1,e.2.2)] else [])]) ([y4.2]=[x.2.1++((Zbx Zcd x.2.2.1).filter fun jq=>decide ((jq.1:Int)≠x.2.2.2.1)).map (fun jq=>Zuz e jq.2)++(if 1 < Zbh e.2.1 then [(2,Zbh e.2.1,e.2.2)] else [])]))) ((0:Int),o):=by
   intro o ho
   refine Lp.flt x.2.2.1 Zcd o (fun jq=>decide ((jq.1:Int)≠x.2.2.2.1)) (fun jq=>Zuz e jq.2) (by omega) (fun i t R hi hi' hf htl h1 h2=>?_) (fun R hlen=>?_)
   ·have hm:=Zi (d:=Zcd) hi
    simp only[decide_eq_true hi',Int.toNat_natCast,cond_true]
    obtain⟨q,hq⟩:∃ q,x.2.2.1.getD i Zcd=q:=⟨_,rfl⟩
    simp only[hq] at hm h1 h2 ⊢
    obtain⟨hqM,hqa,hqL,hqk⟩:=hpb q hm
    refine⟨⟨by omega,hi'⟩,?_⟩
    by_cases hne:(i:Int)≠x.2.2.2.1
    ·rw[show ((i:Int) != x.2.2.2.1)=true by simpa using hne,cond_true]
     have hab:=ZjQ hea
     have hpr:=Zuo hab hqM
     have hs:-1048576≤(if e.2.1 < 0 then (1:Int) else -1)*q.2.1∧(if e.2.1 < 0 then (1:Int) else -1)*q.2.1≤1048576:=by split<;>omega
     have hsf:Zm IntKind.i64 (if e.2.1 < 0 then (1:Int) else -1):=by split<;>exact⟨by omega,by omega⟩
     refine⟨⟨by omega,by omega⟩,hsf,⟨by omega,by omega⟩,⟨hab,hqL,hs,heL,by show q.2.2.1.length=e.2.2.1.length;omega⟩,⟨by simp only[List.length_singleton];subst ho;omega,by simp only[List.length_singleton];subst ho;omega⟩,hf,h1 (decide_eq_true hne)⟩
    ·rw[show ((i:Int) != x.2.2.2.1)=false by simpa using hne,cond_false]
     exact⟨hf,h2 (decide_eq_false hne)⟩
   ·simp only[Int.lt_irrefl,decide_false,cond_false]
    subst ho
    by_cases ha:1 < Zbh e.2.1
    ·rw[decide_eq_true ha,cond_true,if_pos ha]
     exact⟨⟨by simp only[List.length_singleton];omega,by simp only[List.length_singleton];omega⟩,rfl⟩
    ·rw[decide_eq_false ha,cond_false,if_neg ha,List.append_nil]
  rintro (_ | _) hb
  ·simp only[cond_false,List.nil_append,List.length_nil,Nat.zero_add]
   exact⟨⟨by omega,by omega⟩,key _ rfl⟩
  ·simp only[cond_true]
   exact key _ (hb rfl).symm
 ·intro R hR
  by_cases ha:e.2.1 < 0
  ·rw[decide_eq_true ha,cond_true]
   exact⟨⟨by omega,by omega⟩,hR _ ⟨by simp only;unfold Zbh;omega,by simp only[if_pos ha];omega⟩⟩
  ·rw[decide_eq_false ha,cond_false]
   exact hR _ ⟨by simp only;unfold Zbh;omega,by simp only[if_neg ha]⟩
theorem ZA.spec(x:Pc)(hp:ZA.pre (x,())):ZA.wp x (fun r=>r=ZA.fn (x,())):=by
 obtain⟨k,h400,_,⟨hll,hlb⟩,⟨hul,hub⟩⟩:=hp
 simp only at h400 hll hlb hul hub
 obtain⟨g,hg⟩:∃ g:Part→List Zc,g=fun l=>x.2.2.2.2.2.1.map fun u=>(0,0,ZcF l.2.1 u.2.2 (-u.2.1) l.2.2):=⟨_,rfl⟩
 have hfn:ZA.fn (x,())=[x.2.1++x.2.2.2.2.1.flatMap g]:=by rw[hg]
 simp only[ZA.wp,hfn]
 have hgl:∀ l:List Part,l.length≤400→(l.flatMap g).length≤160000:=fun l hl=>by
  have:=ZcW (g:=g) (k:=400) (l:=l) fun y hy=>by rw[hg];simp only[List.length_map];exact hul
  have:=Nat.mul_le_mul hl (Nat.le_refl 400)
  omega
 have key:∀ o:List Zc,o=x.2.1→Lp (σ:=Int×List (Zc)) (fun y3 R3=>let v3:=List.getD x.2.2.2.2.1 (Int.toNat y3.1) (Za,((0:Int),(([]:List Int),(0:Int))));cond (decide (y3.1 < ((List.length x.2.2.2.2.1:Nat):Int))) (((0:Int)≤y3.1∧y3.1 < ((List.length x.2.2.2.2.1:Nat):Int))∧Lp (σ:=Int×List (Zc)) (fun y5 R5=>let v2:=List.getD x.2.2.2.2.2.1 (Int.toNat y5.1) (Za,((0:Int),(([]:List Int),(0:Int))));let v5:=[((0:Int),((0:Int),(ZO.fn (v3.2.1,(v2.2.2,((-v2.2.1),(v3.2.2,())))))))];cond (decide (y5.1 < ((List.length x.2.2.2.2.2.1:Nat):Int))) (((0:Int)≤y5.1∧y5.1 < ((List.length x.2.2.2.2.2.1:Nat):Int))∧(Zm IntKind.i64 (-v2.2.1)∧(ZO.pre (v3.2.1,(v2.2.2,((-v2.2.1),(v3.2.2,()))))∧((((List.length y5.2+List.length v5)*48)≤140737488355328∧(List.length y5.2+List.length v5)≤9223372036854775807)∧(Zm IntKind.i64 (y5.1+(1:Int))∧R5 ((y5.1+(1:Int)),(y5.2++v5))))))) (Zm IntKind.i64 (y3.1+(1:Int))∧R3 ((y3.1+(1:Int)),y5.2))) ((0:Int),y3.2)) ([y3.2]=[x.2.1++x.2.2.2.2.1.flatMap g])) ((0:Int),o):=by
  intro o ho
  refine Lp.flat x.2.2.2.2.1 Zcd o g (by omega) (fun i R hi hi' hf hR=>?_) (fun R=>?_)
  ·have hm:=Zi (d:=Zcd) hi
   simp only[decide_eq_true hi',Int.toNat_natCast,cond_true]
   obtain⟨l,hl⟩:∃ l,x.2.2.2.2.1.getD i Zcd=l:=⟨_,rfl⟩
   simp only[hl] at hm hR ⊢
   obtain⟨hqM,hqa,hqL,hqk⟩:=hlb l hm
   refine⟨⟨by omega,hi'⟩,?_⟩
   have htk:(x.2.2.2.2.1.take i).length≤400:=by rw[List.length_take];omega
   have ho1:=hgl _ htk
   refine Lp.flt x.2.2.2.2.2.1 Zcd _ (fun _=>true) (fun ju=>(0,0,ZcF l.2.1 ju.2.2.2 (-ju.2.2.1) l.2.2)) (by omega) (fun j t R1 hj hj' hfj htl h1 h2=>?_) (fun R1 hlen=>?_)
   ·have hmu:=Zi (d:=Zcd) hj
    simp only[decide_eq_true hj',Int.toNat_natCast,cond_true]
    obtain⟨u,hu⟩:∃ u,x.2.2.2.2.2.1.getD j Zcd=u:=⟨_,rfl⟩
    simp only[hu] at hmu h1 ⊢
    obtain⟨huM,hua,huL,huk⟩:=hub u hmu
    have htl':t.length≤170000:=by rw[List.length_append] at htl;subst ho;omega
    exact⟨⟨by omega,hj'⟩,⟨by omega,by omega⟩,⟨hqa,huL,⟨by show -1048576≤-u.2.1;omega,by show -u.2.1≤1048576;omega⟩,hqL,by show u.2.2.1.length=l.2.2.1.length;omega⟩,⟨by simp only[List.length_singleton];omega,by simp only[List.length_singleton];omega⟩,hfj,h1 trivial⟩
   ·simp only[Int.lt_irrefl,decide_false,cond_false]
    refine⟨hf,?_⟩
    have e:=Zef Zcd x.2.2.2.2.2.1 (fun _=>true) (fun u=>((0:Int),(0:Int),ZcF l.2.1 u.2.2 (-u.2.1) l.2.2))
    rw[e,List.filter_eq_self.2 (fun _ _=>rfl)]
    rw[hg] at hR ⊢
    exact hR
  ·simp only[Int.lt_irrefl,decide_false,cond_false]
   rw[ho]
 rintro (_ | _) hb
 ·simp only[cond_false,List.nil_append,List.length_nil,Nat.zero_add]
  exact⟨⟨by omega,by omega⟩,key _ rfl⟩
 ·simp only[cond_true]
  exact key _ (hb rfl).symm
theorem ZrV{n l:Int}(hl:l≠0)(hn:-1048576≤n∧n≤1048576):-1048576≤n.tdiv l∧n.tdiv l≤1048576:=by
 have h:(n.tdiv l).natAbs≤n.natAbs:=by rw[Int.natAbs_tdiv];exact Nat.div_le_self _ _
 omega
theorem Zp.spec(x:Pc)(l:Int)(w:Lin)(all:Bool)(hp:Zp.pre (x,l,w,all,())):Zp.wp x l w all (fun r=>r=Zp.fn (x,l,w,all,())):=by
 obtain⟨⟨k,⟨h400,⟨hpl,hpb⟩,_,_⟩,hwk⟩,hl0,hw⟩:=hp
 simp only at h400 hpl hpb hwk hl0 hw
 have hfn:Zp.fn (x,l,w,all,())=x.2.1++(x.2.2.1.filter fun q=>all||decide (q.1.1=2)).map (fun q=>(q.1.1,q.1.2.1,ZcF 1 q.2.2 (q.2.1.tdiv l) w))++[(2,l,w)]:=rfl
 simp only[Zp.wp,hfn]
 have key:∀ o:List Zc,o=x.2.1→Lp (σ:=Int×List (Zc)) (fun y6 R6=>let v0:=List.getD x.2.2.1 (Int.toNat y6.1) (Za,((0:Int),(([]:List Int),(0:Int))));let v2:=[(v0.1.1,(v0.1.2.1,(ZO.fn ((1:Int),(v0.2.2,(Int.tdiv v0.2.1 l,(w,())))))))];cond (decide (y6.1 < ((List.length x.2.2.1:Nat):Int))) (((0:Int)≤y6.1∧y6.1 < ((List.length x.2.2.1:Nat):Int))∧(((!all)=true→((!all)=true∧True))∧(((!all)=true→((!all)=true∧True))∧(((!all)=true→((!all)=true∧True))∧((all=false→(!all)=true)∧cond (all||(v0.1.1 == (2:Int))) ((l≠(0:Int)∧Zm IntKind.i64 (Int.tdiv v0.2.1 l))∧(ZO.pre ((1:Int),(v0.2.2,(Int.tdiv v0.2.1 l,(w,()))))∧((((List.length y6.2+List.length v2)*48)≤140737488355328∧(List.length y6.2+List.length v2)≤9223372036854775807)∧(Zm IntKind.i64 (y6.1+(1:Int))∧R6 ((y6.1+(1:Int)),(y6.2++v2)))))) (Zm IntKind.i64 (y6.1+(1:Int))∧R6 ((y6.1+(1:Int)),y6.2))))))) ((((List.length y6.2+List.length ([((2:Int),(l,w))]))*48)≤140737488355328∧(List.length y6.2+List.length ([((2:Int),(l,w))]))≤9223372036854775807)∧(y6.2++[((2:Int),(l,w))])=x.2.1++(x.2.2.1.filter fun q=>all||decide (q.1.1=2)).map (fun q=>(q.1.1,q.1.2.1,ZcF 1 q.2.2 (q.2.1.tdiv l) w))++[(2,l,w)])) ((0:Int),o):=by
  intro o ho
  refine Lp.flt x.2.2.1 Zcd o (fun jq=>all||decide (jq.2.1.1=2)) (fun jq=>(jq.2.1.1,jq.2.1.2.1,ZcF 1 jq.2.2.2 (jq.2.2.1.tdiv l) w)) (by omega) (fun i t R hi hi' hf htl h1 h2=>?_) (fun R hlen=>?_)
  ·have hm:=Zi (d:=Zcd) hi
   simp only[decide_eq_true hi',Int.toNat_natCast,cond_true]
   obtain⟨q,hq⟩:∃ q,x.2.2.1.getD i Zcd=q:=⟨_,rfl⟩
   simp only[hq] at hm h1 h2 ⊢
   obtain⟨hqM,hqa,hqL,hqk⟩:=hpb q hm
   have htd:=ZrV hl0 hqa
   refine⟨⟨by omega,hi'⟩,fun h=>⟨h,trivial⟩,fun h=>⟨h,trivial⟩,fun h=>⟨h,trivial⟩,fun h=>by rw[h];rfl,?_⟩
   have hcb:(all||(q.1.1 == 2))=(all||decide (q.1.1=2)):=rfl
   rw[hcb]
   cases hb:(all||decide (q.1.1=2)) with
   | true =>
     rw[cond_true]
     exact⟨⟨hl0,⟨by omega,by omega⟩⟩,⟨⟨by show (-1048576:Int)≤1;omega,by show (1:Int)≤1048576;omega⟩,hqL,htd,hw,by show q.2.2.1.length=w.1.length;omega⟩,⟨by simp only[List.length_singleton];subst ho;omega,by simp only[List.length_singleton];subst ho;omega⟩,hf,h1 hb⟩
   | false =>
     rw[cond_false]
     exact⟨hf,h2 hb⟩
  ·simp only[Int.lt_irrefl,decide_false,cond_false]
   subst ho
   refine⟨⟨by simp only[List.length_singleton];omega,by simp only[List.length_singleton];omega⟩,?_⟩
   rw[Zef Zcd x.2.2.1 (fun q=>all||decide (q.1.1=2)) (fun q=>(q.1.1,q.1.2.1,ZcF 1 q.2.2 (q.2.1.tdiv l) w))]
 rintro (_ | _) hb
 ·simp only[cond_false,List.nil_append,List.length_nil,Nat.zero_add]
  exact⟨⟨by omega,by omega⟩,key _ rfl⟩
 ·simp only[cond_true]
  exact key _ (hb rfl).symm
theorem Zg5{l:Lin}(h:Zdf l)(v:Nat):Zdf (Zdg l.1 v,l.2) :=
 ⟨by have : (Zdg l.1 v).length ≤ l.1.length := by unfold Zdg; simp; omega
     have:=h.1
     show (Zdg l.1 v).length≤_;omega,fun n hn=>h.2.1 n (ZoN hn),h.2.2⟩
theorem Zai.spec(c:Zc)(v m k:Int)(w:Lin)(hp:Zai.pre (c,v,m,k,w,())):Zai.wp c v m k w (fun r=>r=Zai.fn (c,v,m,k,w,())):=by
 obtain⟨⟨n,⟨hM,hL,hn⟩,hn4,hwn,hv0,hv1⟩,hcf,hm,hk,hw⟩:=hp
 simp only at hM hL hn hn4 hwn hv0 hv1 hcf hm hk hw
 simp only[Zai.wp,Zai.fn]
 have hlen:(v:Int) < (c.2.2.1.length:Int):=by omega
 have hcoef:c.2.2.1.getD v.toNat 0=Ze v.toNat c:=rfl
 have hpr:=Zuo hM hm
 have hck:-1048576≤Ze v.toNat c*k∧Ze v.toNat c*k≤1048576:=by rcases hk with rfl | rfl<;>omega
 have hcl:(Zdg c.2.2.1 v.toNat).length=c.2.2.1.length - 1:=Zij (by omega)
 refine⟨⟨by show c.2.2.1.length≤1048576;omega,hv0,hlen⟩,⟨by omega,by omega⟩,⟨hv0,hlen⟩,⟨by rw[hcoef];omega,by rw[hcoef];omega⟩,⟨hm,Zg5 hL _,by rw[hcoef];exact hck,hw,by show (Zdg c.2.2.1 v.toNat).length=w.1.length;omega⟩,rfl⟩
theorem ZL.spec(l:List (List Zc))(hp:ZL.pre (l,())):ZL.wp l (fun r=>r=ZL.fn (l,())):=by
 have hfn:ZL.fn (l,())=ZeH l:=rfl
 simp only[ZL.wp,hfn]
 have hpf:ZU.fn (l,())=Zgj l:=rfl
 simp only[hpf]
 refine⟨hp,fun h=>⟨h,trivial⟩,fun h=>⟨h,trivial⟩,fun h=>by rw[h];rfl,?_⟩
 have ht:ZdX l=(l.foldlM Zco []).bind fun o=>if 400 < o.length then none else some o:=ZlS l [] (by simp)
 unfold ZeH Zgj
 simp only[ht]
 rcases Z8 (l.foldlM Zco []) with e | ⟨out,e⟩
 ·simp only[e]
  rfl
 ·simp only[e,Option.bind_some]
  by_cases h:400 < out.length
  ·simp only[if_pos h,decide_eq_true (show (400:Int) < ((out.length:Nat):Int) by omega),Bool.or_true,cond_true]
  ·simp only[if_neg h,decide_eq_false (show ¬ (400:Int) < ((out.length:Nat):Int) by omega)]
   simp
theorem pieceN.c{p:List Zc}{n:Int}(h:pieceN p n){c:Zc}(hc:c∈p):Zd c=true∧(c.2.2.1.length:Int)=n:=h.2.1 c hc
theorem ZiM{c:Zc}(h:Zd c=true):-1048576≤c.2.1∧c.2.1≤1048576:=by
 unfold Zd at h
 split at h
 ·simp only[Bool.and_eq_true,beq_iff_eq] at h;omega
 ·split at h
  ·simp only[Bool.and_eq_true,decide_eq_true_iff] at h;omega
  ·cases h
theorem Zf4{c:Zc}(h:Zd c=true):Zdf c.2.2:=by
 have hl:=Z4.b (Zd.lin h)
 exact⟨by show c.2.2.1.length≤1048576;omega,fun n hn=>by have:=hl.2.1 n hn;omega,by show -4294967296≤c.2.2.2;omega,by show c.2.2.2≤4294967296;omega⟩
theorem Zaf.spec(p:List Zc)(eq v:Int)(hp:Zaf.pre (p,eq,v,())):Zaf.wp p eq v (fun r=>r=Zaf.fn (p,eq,v,())):=by
 obtain⟨⟨n,hN,hv0,hv1⟩,h0,h1,hne⟩:=hp
 simp only at hN hv0 hv1 h0 h1 hne
 have hfn:Zaf.fn (p,eq,v,())=ZcT v.toNat p eq.toNat:=rfl
 have hwo:∀ l:Lin,Zn.fn (l,v,())=(Zdg l.1 v.toNat,l.2):=fun _=>rfl
 have hpu:∀ c m k w,Zai.fn (c,v,m,k,w,())=(c.1,c.2.1*m,ZcF m (ZaN v.toNat c) (Ze v.toNat c*k) w):=fun _ _ _ _=>rfl
 simp only[Zaf.wp,hfn,Zo.fn,hwo,hpu]
 have he:eq.toNat < p.length:=by omega
 have hmem:=Zi (d:=Za) he
 have hsp:ZcT v.toNat p eq.toNat=((Zbx Za p).filter fun jc=>decide (jc.1≠eq.toNat)).map (fun jc=>if Ze v.toNat jc.2=0 then Zdn v.toNat jc.2 else Zmw v.toNat (p.getD eq.toNat Za) jc.2) ++
  (if 1 < Zbh (Ze v.toNat (p.getD eq.toNat Za)) then [(2,Zbh (Ze v.toNat (p.getD eq.toNat Za)),ZaN v.toNat (p.getD eq.toNat Za))] else []):=rfl
 rw[hsp]
 obtain⟨e,hee⟩:∃ e,p.getD eq.toNat Za=e:=⟨_,rfl⟩
 simp only[hee] at hmem hne ⊢
 obtain⟨hev,hel⟩:=hN.c hmem
 have hcoefe:e.2.2.1.getD v.toNat 0=Ze v.toNat e:=rfl
 simp only[hcoefe]
 obtain⟨a,ha⟩:∃ a,Ze v.toNat e=a:=⟨_,rfl⟩
 have hab:=ZcP hev v.toNat
 simp only[ha] at hne hab ⊢
 have hel12:e.2.2.1.length≤12:=by have:=hN.2.2.2;omega
 refine⟨⟨h0,h1⟩,⟨hv0,by omega⟩,⟨h0,h1⟩,⟨by show e.2.2.1.length≤1048576;omega,hv0,by show v < (e.2.2.1.length:Int);omega⟩,?_⟩
 have hsz:ZeD a:=⟨by omega,by omega⟩
 have key:∀ k:Int,k=(if a < 0 then 1 else -1)→Lp (σ:=Int×List (Zc)) (fun y4 R4=>let v2:=List.getD p (Int.toNat y4.1) Za;let v5:=[(v2.1,(v2.2.1,(Zdg v2.2.2.1 v.toNat,v2.2.2.2)))];let v7:=((v2.1,v2.2.1*Zbh a,ZcF (Zbh a) (ZaN v.toNat v2) (Ze v.toNat v2*k) (Zdg e.2.2.1 v.toNat,e.2.2.2)):Zc);cond (decide (y4.1 < ((List.length p:Nat):Int))) (((0:Int)≤y4.1∧y4.1 < ((List.length p:Nat):Int))∧cond (y4.1 == eq) (Zm IntKind.i64 (y4.1+(1:Int))∧R4 ((y4.1+(1:Int)),y4.2)) (((0:Int)≤v∧v < ((List.length v2.2.2.1:Nat):Int))∧cond ((List.getD v2.2.2.1 (Int.toNat v) (0:Int)) == (0:Int)) (Zn.pre (v2.2.2,(v,()))∧((((List.length y4.2+List.length v5)*48)≤140737488355328∧(List.length y4.2+List.length v5)≤9223372036854775807)∧(Zm IntKind.i64 (y4.1+(1:Int))∧R4 ((y4.1+(1:Int)),(y4.2++v5))))) (Zo.pre (a,())∧(Zm IntKind.i64 k∧(Zai.pre (v2,(v,(Zbh a,(k,((Zdg e.2.2.1 v.toNat,e.2.2.2),())))))∧((((List.length y4.2+List.length [v7])*48)≤140737488355328∧(List.length y4.2+List.length [v7])≤9223372036854775807)∧(Zm IntKind.i64 (y4.1+(1:Int))∧R4 ((y4.1+(1:Int)),(y4.2++[v7]))))))))) (Zo.pre (a,())∧cond (decide ((1:Int) < Zbh a)) (Zo.pre (a,())∧((((List.length y4.2+List.length [((2:Int),(Zbh a,(Zdg e.2.2.1 v.toNat,e.2.2.2)))])*48)≤140737488355328∧(List.length y4.2+List.length [((2:Int),(Zbh a,(Zdg e.2.2.1 v.toNat,e.2.2.2)))])≤9223372036854775807)∧(y4.2++[((2:Int),(Zbh a,(Zdg e.2.2.1 v.toNat,e.2.2.2)))])=((Zbx Za p).filter fun jc=>decide (jc.1≠eq.toNat)).map (fun jc=>if Ze v.toNat jc.2=0 then Zdn v.toNat jc.2 else Zmw v.toNat e jc.2)++(if 1 < Zbh a then [(2,Zbh a,ZaN v.toNat e)] else []))) (y4.2=((Zbx Za p).filter fun jc=>decide (jc.1≠eq.toNat)).map (fun jc=>if Ze v.toNat jc.2=0 then Zdn v.toNat jc.2 else Zmw v.toNat e jc.2)++(if 1 < Zbh a then [(2,Zbh a,ZaN v.toNat e)] else [])))) ((0:Int),([]:List (Zc))):=by
  intro k hk
  have h400:=hN.1
  refine Lp.flt p Za [] (fun jc=>decide (jc.1≠eq.toNat)) (fun jc=>if Ze v.toNat jc.2=0 then Zdn v.toNat jc.2 else Zmw v.toNat e jc.2) (by omega) (fun i t R hi hi' hf htl h1 h2=>?_) (fun R hlen=>?_)
  ·have hm:=Zi (d:=Za) hi
   simp only[decide_eq_true hi',Int.toNat_natCast,cond_true]
   obtain⟨c,hq⟩:∃ c,p.getD i Za=c:=⟨_,rfl⟩
   simp only[hq] at hm h1 h2 ⊢
   obtain⟨hcv,hcl⟩:=hN.c hm
   refine⟨⟨by omega,hi'⟩,?_⟩
   by_cases hie:(i:Int)=eq
   ·rw[show ((i:Int) == eq)=true by simpa using hie,cond_true]
    exact⟨hf,h2 (by simp;omega)⟩
   ·rw[show ((i:Int) == eq)=false by simpa using hie,cond_false]
    have h1':=h1 (by simp;omega)
    have hcoefc:c.2.2.1.getD v.toNat 0=Ze v.toNat c:=rfl
    simp only[hcoefc]
    refine⟨⟨hv0,by omega⟩,?_⟩
    simp only[List.length_nil,Nat.zero_add] at htl
    by_cases hc0:Ze v.toNat c=0
    ·rw[show (Ze v.toNat c == 0)=true by simpa using hc0,cond_true]
     rw[if_pos hc0] at h1'
     exact⟨⟨by show c.2.2.1.length≤1048576;omega,hv0,by show v < (c.2.2.1.length:Int);omega⟩,⟨by simp only[List.length_singleton];omega,by simp only[List.length_singleton];omega⟩,hf,h1'⟩
    ·rw[show (Ze v.toNat c == 0)=false by simpa using hc0,cond_false]
     rw[if_neg hc0] at h1'
     have hput:Zmw v.toNat e c=(c.1,c.2.1*Zbh a,ZcF (Zbh a) (ZaN v.toNat c) (Ze v.toNat c*k) (Zdg e.2.2.1 v.toNat,e.2.2.2)):=by
      rw[hk];unfold Zmw;rw[ha];rfl
     rw[hput] at h1'
     have hcle:(Zdg e.2.2.1 v.toNat).length=e.2.2.1.length - 1:=Zij (by omega)
     refine⟨hsz,by rw[hk];split<;>exact⟨by omega,by omega⟩,⟨⟨c.2.2.1.length,⟨ZiM hcv,Zf4 hcv,rfl⟩,by have:=hN.2.2.2;omega,by show (Zdg e.2.2.1 v.toNat).length+1=c.2.2.1.length;omega,hv0,by show v < (c.2.2.1.length:Int);omega⟩,ZcP hcv _,ZjQ hab,by show k=1∨k=-1;rw[hk];split<;>simp,Zg5 (Zf4 hev) _⟩,⟨by simp only[List.length_singleton];omega,by simp only[List.length_singleton];omega⟩,hf,h1'⟩
  ·simp only[Int.lt_irrefl,decide_false,cond_false,List.nil_append] at hlen ⊢
   simp only[List.length_nil,Nat.zero_add] at hlen
   refine⟨hsz,?_⟩
   by_cases h1a:1 < Zbh a
   ·rw[decide_eq_true h1a,cond_true,if_pos h1a]
    exact⟨hsz,⟨by simp only[List.length_singleton];omega,by simp only[List.length_singleton];omega⟩,rfl⟩
   ·rw[decide_eq_false h1a,cond_false,if_neg h1a,List.append_nil]
 by_cases hneg:a < 0
 ·rw[decide_eq_true hneg,cond_true]
  exact key (-(-(1:Int))) (by rw[if_pos hneg];omega)
 ·rw[decide_eq_false hneg,cond_false]
  exact key (-(1:Int)) (by rw[if_neg hneg])
section
theorem ZaT{v:Nat}{p:List Zc}{c:Zc}:c∈Zu v p↔c∈p∧Ze v c≠0:=by simp[Zu]
theorem Zgh{v:Nat}{p:List Zc}(h:(ZbJ v p).2=0):(ZbJ v p).1=(Zgk ((Zu v p).map fun c=>Zbh (Ze v c)):Int)∧1≤(ZbJ v p).1∧(ZbJ v p).1≤512:=by
 unfold ZbJ at h ⊢
 rcases Zj9 ((Zu v p).map fun c=>Zbh (Ze v c)) with h1 | h1 | ⟨h1,h2,h3,h4⟩
 ·rw[h] at h1;cases h1
 ·rw[h] at h1;cases h1
 ·rw[h3]
  have:=ZlY h2
  exact⟨rfl,by omega,by omega⟩
theorem Ze3{v:Nat}{p:List Zc}(h:(ZbJ v p).2=0){c:Zc}(hc:c∈Zu v p):Zca v (ZbJ v p).1 c*Zbh (Ze v c)=(ZbJ v p).1∧1≤Zca v (ZbJ v p).1 c∧Zca v (ZbJ v p).1 c≤512∧1≤Zbh (Ze v c):=by
 obtain⟨h1,h2,h3⟩:=Zgh h
 have ha:1≤Zbh (Ze v c):=by have:=(ZaT.1 hc).2;unfold Zbh;omega
 have hd:Zbh (Ze v c) ∣ (ZbJ v p).1:=by
  rw[h1]
  exact Zil (List.mem_map_of_mem (f:=fun c=>Zbh (Ze v c)) hc)
 obtain⟨l,hl⟩:∃ l,(ZbJ v p).1=l:=⟨_,rfl⟩
 rw[hl] at h2 h3 hd ⊢
 unfold Zca
 have hm:l.tdiv (Zbh (Ze v c))*Zbh (Ze v c)=l:=Int.tdiv_mul_cancel hd
 have hq:l.tdiv (Zbh (Ze v c))=l / Zbh (Ze v c):=Int.tdiv_eq_ediv_of_nonneg (by omega)
 refine⟨hm,?_,?_,ha⟩
 ·rw[hq] at hm ⊢
  have h0:0≤l / Zbh (Ze v c):=Int.ediv_nonneg (by omega) (by omega)
  rcases Int.lt_or_le 0 (l / Zbh (Ze v c)) with h | h
  ·omega
  ·have:l / Zbh (Ze v c)=0:=by omega
   rw[this] at hm;omega
 ·rw[hq]
  exact Int.le_trans (Int.ediv_le_self _ (by omega)) h3
theorem Zov{v:Nat}{p:List Zc}{l:Int}(h:(Zfs v p l).2=0):1≤(Zfs v p l).1∧(Zfs v p l).1≤512∧l ∣ (Zfs v p l).1∧∀ c∈Zu v p,c.1=2→c.2.1*Zca v l c ∣ (Zfs v p l).1:=by
 unfold Zfs at h ⊢
 rcases Zj9 (l::((Zu v p).filter fun c=>decide (c.1=2)).map fun c=>c.2.1*Zca v l c) with h1 | h1 | ⟨h1,h2,h3,h4⟩
 ·rw[h] at h1;cases h1
 ·rw[h] at h1;cases h1
 ·rw[h3]
  have:=ZlY h2
  refine⟨by omega,by omega,Zil (by simp),fun c hc h2'=>Zil (List.mem_cons_of_mem _ ?_)⟩
  exact List.mem_map_of_mem (f:=fun c=>c.2.1*Zca v l c) (List.mem_filter.2 ⟨hc,by simpa using h2'⟩)
def Zeo(B:Int)(n:Nat)(l:Lin):Prop:=l.1.length=n∧(∀ x∈l.1,-B≤x∧x≤B)∧-B≤l.2∧l.2≤B
theorem Zeo.small{B:Int}{n:Nat}{l:Lin}(h:Zeo B n l)(hB:B≤4294967296)(hn:n≤1048576):Zdf l :=
 ⟨by have:=h.1;omega,fun x hx=>by have:=h.2.1 x hx;omega,by have:=h.2.2;omega,by have:=h.2.2;omega⟩
theorem Zeo.linB{B:Int}{n:Nat}{l:Lin}(h:Zeo B n l)(hB:B≤2305843009213693952)(hn:n≤1048576):linB l :=
 ⟨by have:=h.1;omega,fun x hx=>by have:=h.2.1 x hx;unfold ZeD;omega,by have:=h.2.2;unfold ZeD;omega⟩
theorem Zeo.getD{B:Int}{n:Nat}{l:Lin}(h:Zeo B n l)(hB:0≤B)(i:Nat):-B≤l.1.getD i 0∧l.1.getD i 0≤B:=Zsw (P:=fun x=>-B≤x∧x≤B) h.2.1 (by omega)
theorem Zmb{a b A B C D:Int}{l m:Lin}{n:Nat}(hA:0≤A)(hB:0≤B)(hC:0≤C)(hD:0≤D)(ha:-A≤a∧a≤A)(hl:Zeo C n l)(hb:-B≤b∧b≤B)(hm:Zeo D n m):Zeo (A*C+B*D) n (ZcF a l b m):=by
 have key:∀ x y:Int,(-C≤x∧x≤C)→(-D≤y∧y≤D)→-(A*C+B*D)≤a*x+b*y∧a*x+b*y≤A*C+B*D:=fun x y hx hy=>by
  have h1:=ZdA hA hC ha.1 ha.2 hx.1 hx.2
  have h2:=ZdA hB hD hb.1 hb.2 hy.1 hy.2
  omega
 refine⟨by simp[ZcF,hl.1],fun x hx=>?_,key _ _ hl.2.2 hm.2.2⟩
 simp only[ZcF,List.mem_map,List.mem_range] at hx
 obtain⟨i,hi,rfl⟩:=hx
 exact key _ _ (hl.getD hC i) (hm.getD hD i)
theorem ZcL{c:Zc}{n:Int}{v:Nat}(h:Zd c=true∧(c.2.2.1.length:Int)=n)(hv:(v:Int) < n):Zeo 1048576 (n.toNat - 1) (ZaN v c):=by
 have hl:=Z4.b (Zd.lin h.1)
 refine⟨?_,fun x hx=>hl.2.1 x (ZoN hx),hl.2.2⟩
 show (Zdg c.2.2.1 v).length=_
 rw[Zij (by omega)];omega
theorem Zfz{c:Zc}(h:Zd c=true):Zqa c:=by
 unfold Zd at h
 split at h
 ·rename_i h1;exact h1.elim .inl fun h=>.inr (.inl h)
 ·split at h
  ·rename_i h2
   simp only[Bool.and_eq_true,decide_eq_true_iff] at h
   exact .inr (.inr ⟨h2,by omega,by omega⟩)
  ·cases h
theorem ZoF{c:Zc}{n:Int}{v:Nat}(h:Zd c=true∧(c.2.2.1.length:Int)=n)(hv:(v:Int) < n)(hn:n≤12):condB (Zdn v c)∧(Zdn v c).2.2.1.length=n.toNat - 1:=by
 have hr:=ZcL h hv
 have hk:=Zfz h.1
 exact⟨⟨hk,hr.linB (by omega) (by omega)⟩,hr.1⟩
theorem ZmJ{k m f:Int}{l l':Lin}(h:Zqa (k,m,l))(hm:-1048576≤m∧m≤1048576)(h1:1≤f)(h2:f≤1048576):Zqa (k,m*f,l'):=by
 rcases h with h | h | ⟨h,h3,h4⟩
 ·exact .inl h
 ·exact .inr (.inl h)
 ·simp only at h h3 h4
  have h5:=Int.mul_le_mul h3 h1 (by omega) (by omega)
  have h6:=Zuo hm (b:=f) (by omega)
  exact .inr (.inr ⟨h,by show 1≤m*f;omega,by show m*f≤2305843009213693952;omega⟩)
theorem ZwI {c e : Zc} {n : Int} {v : Nat} (h : Zd c = true ∧ (c.2.2.1.length : Int) = n) (he : Zd e = true ∧ (e.2.2.1.length : Int) = n) (hv : (v : Int) < n) (hn : n ≤ 12) (h0 : Ze v e ≠ 0) :
 condB (Zmw v e c)∧(Zmw v e c).2.2.1.length=n.toNat - 1:=by
 have hr:=ZcL h hv
 have hre:=ZcL he hv
 have hab:=ZjQ (ZcP he.1 v)
 have hcb:=ZcP h.1 v
 have ha1:1≤Zbh (Ze v e):=by unfold Zbh;omega
 have hs:-1048576≤Ze v c*(if Ze v e < 0 then 1 else -1)∧Ze v c*(if Ze v e < 0 then 1 else -1)≤1048576:=by split<;>omega
 have hm:=Zmb (A:=1048576) (B:=1048576) (by omega) (by omega) (by omega) (by omega) hab hr hs hre
 exact⟨⟨ZmJ (Zfz h.1) (ZiM h.1) ha1 hab.2,hm.linB (by omega) (by omega)⟩,hm.1⟩
theorem ZjE{c:Zc}{n:Int}{v:Nat}{l:Int}(h:Zd c=true∧(c.2.2.1.length:Int)=n)(hv:(v:Int) < n)(hf:1≤Zca v l c∧Zca v l c≤512):Zeo 536870912 (n.toNat - 1) (ZjU v l c):=by
 have hr:=ZcL h hv
 have key:∀ x:Int,(-1048576≤x∧x≤1048576)→-536870912≤Zca v l c*x∧Zca v l c*x≤536870912:=fun x hx =>
  ZdA (n:=512) (m:=1048576) (by omega) (by omega) (by omega) hf.2 hx.1 hx.2
 refine⟨by simp[ZjU,hr.1],fun x hx=>?_,key _ hr.2.2⟩
 simp only[ZjU,List.mem_map] at hx
 obtain⟨y,hy,rfl⟩:=hx
 exact key y (hr.2.1 y hy)
theorem Zw8 {c : Zc} {n : Int} {v : Nat} {l : Int} {w : Lin} (h : Zd c = true ∧ (c.2.2.1.length : Int) = n) (hv : (v : Int) < n) (hn : n ≤ 12) (hf : 1 ≤ Zca v l c ∧ Zca v l c ≤ 512) (hw : Zeo 536871424 (n.toNat - 1) w) :
 condB (ZvZ v l w c)∧(ZvZ v l w c).2.2.1.length=n.toNat - 1:=by
 have hs:=ZjE h hv hf
 have hm:=Zmb (A:=1) (B:=1) (by omega) (by omega) (by omega) (by omega) (show (-1:Int)≤1∧(1:Int)≤1 by omega) hs (show -1≤ZnA (Ze v c)∧ZnA (Ze v c)≤1 by unfold ZnA;split<;>omega) hw
 exact⟨⟨ZmJ (Zfz h.1) (ZiM h.1) hf.1 (by omega),hm.linB (by omega) (by omega)⟩,hm.1⟩
theorem ZlH{c:Zc}{n:Int}{v:Nat}{l:Int}{low:Bool}{j:Nat}(h:Zd c=true∧(c.2.2.1.length:Int)=n)(hv:(v:Int) < n)(hf:1≤Zca v l c∧Zca v l c≤512)(hj:j≤512):Zeo 536871424 (n.toNat - 1) (Zd0 v l c low j):=by
 have hs:=ZjE h hv hf
 cases low with
 | true =>
   refine⟨by simp[Zd0,hs.1],fun x hx=>?_,by have:=hs.2.2;simp only[Zd0,if_true];omega⟩
   simp only[Zd0,if_true,List.mem_map] at hx
   obtain⟨y,hy,rfl⟩:=hx
   have:=hs.2.1 y hy
   omega
 | false =>
   refine⟨by simp[Zd0,hs.1],fun x hx=>?_,by have:=hs.2.2;simp only[Zd0,Bool.false_eq_true,if_false];omega⟩
   simp only[Zd0,Bool.false_eq_true,if_false] at hx
   have:=hs.2.1 x hx
   omega
theorem ZlW{n:Nat}{j:Nat}(hj:j≤512):Zeo 536871424 n (List.replicate n 0,(j:Int)) :=
 ⟨by simp,fun x hx=>by rw[(List.mem_replicate.1 hx).2];omega,by simp only;omega⟩
def Zj5(n:Nat)(q:List Zc):Prop:=q.length≤200000∧∀ c∈q,condB c∧c.2.2.1.length=n
theorem Zj5.D{n:Nat}{q:List Zc}(h:Zj5 n q):Zay q∧Zda q n:=⟨⟨by have:=h.1;omega,fun c hc=>(h.2 c hc).1⟩,fun c hc=>(h.2 c hc).2⟩
section
variable {p:List Zc} {n:Int} {v:Nat}
theorem ZcM:(Zb1 v p).length≤p.length:=by unfold Zb1;rw[List.length_map];exact List.length_filter_le _ _
theorem Zfp(h:pieceN p n)(hv:(v:Int) < n):∀ c∈Zb1 v p,condB c∧c.2.2.1.length=n.toNat - 1:=fun c hc=>by
 simp only[Zb1,List.mem_map,List.mem_filter] at hc
 obtain⟨d,⟨hd,_⟩,rfl⟩:=hc
 exact ZoF (h.c hd) hv h.2.2.2
theorem ZeS(h:pieceN p n)(hv:(v:Int) < n){i:Nat}(hi:i < p.length)(h0:Ze v (p.getD i Za)≠0):Zj5 (n.toNat - 1) (ZcT v p i):=by
 have hm:=Zi (d:=Za) hi
 have he:=h.c hm
 have hr:=ZcL he hv
 have hab:=ZjQ (ZcP he.1 v)
 refine⟨?_,fun c hc=>?_⟩
 ·unfold ZcT
  have:=List.length_filter_le (fun jc:Nat×Zc=>decide (jc.1≠i)) (Zbx Za p)
  rw[Zfg] at this
  have:=h.1
  simp only[List.length_append,List.length_map]
  split<;>simp only[List.length_cons,List.length_nil]<;>omega
 ·unfold ZcT at hc
  rcases List.mem_append.1 hc with hc | hc
  ·simp only[List.mem_map,List.mem_filter] at hc
   obtain⟨jc,⟨hj,_⟩,rfl⟩:=hc
   have hd:=h.c (Zsh hj).2.2
   split
   ·exact ZoF hd hv h.2.2.2
   ·exact ZwI hd he hv h.2.2.2 h0
  ·split at hc
   ·rename_i h1
    simp only[List.mem_singleton] at hc
    subst hc
    exact⟨⟨.inr (.inr ⟨rfl,by show 1≤Zbh _;omega,by show Zbh _≤_;omega⟩),hr.linB (by omega) (by have:=h.2.2.2;omega)⟩,hr.1⟩
   ·cases hc
theorem Zhh(h:pieceN p n)(hv:(v:Int) < n):Zj5 (n.toNat - 1) (Zj1 v p):=by
 have hle:∀ f:Zc→Bool,(p.filter f).length≤400:=fun f=>Nat.le_trans (List.length_filter_le _ _) h.1
 refine⟨?_,fun c hc=>?_⟩
 ·unfold Zj1
  have h1:=ZcM (v:=v) (p:=p)
  have h2:=ZcW (g:=fun x=>(upP v p).map (Znq v x)) (k:=400) (l:=Zb8 v p) fun x hx=>by rw[List.length_map];exact hle _
  have h3:=Nat.mul_le_mul (hle fun c=>decide (Ze v c≠0∧c.1≠1∧c.1≠2∧0 < Ze v c)) (Nat.le_refl 400)
  have h4:(Zb8 v p).length*400≤400*400:=h3
  have:=h.1
  rw[List.length_append];omega
 ·unfold Zj1 at hc
  rcases List.mem_append.1 hc with hc | hc
  ·exact Zfp h hv c hc
  ·simp only[List.mem_flatMap,List.mem_map] at hc
   obtain⟨x,hx,y,hy,rfl⟩:=hc
   have hx':=h.c (List.mem_filter.1 hx).1
   have hy':=h.c (List.mem_filter.1 hy).1
   have hcx:=ZcP hx'.1 v
   have hcy:=ZcP hy'.1 v
   have hm:=Zmb (A:=1048576) (B:=1048576) (by omega) (by omega) (by omega) (by omega) hcx (ZcL hy' hv) (show -1048576≤-Ze v y∧-Ze v y≤1048576 by omega) (ZcL hx' hv)
   exact⟨⟨.inl rfl,hm.linB (by omega) (by have:=h.2.2.2;omega)⟩,hm.1⟩
theorem Zji(h:pieceN p n)(hv:(v:Int) < n)(hl:(ZbJ v p).2=0){w:Lin}(hw:Zeo 536871424 (n.toNat - 1) w)(all:Bool):Zj5 (n.toNat - 1) (Zfw v p (ZbJ v p).1 w all):=by
 obtain⟨hl1,hl2,hl3⟩:=Zgh hl
 refine⟨?_,fun c hc=>?_⟩
 ·unfold Zfw
  have h1:=ZcM (v:=v) (p:=p)
  have h2:=List.length_filter_le (fun c:Zc=>all||decide (c.1=2)) (Zu v p)
  have h3:(Zu v p).length≤p.length:=List.length_filter_le _ _
  have:=h.1
  simp only[List.length_append,List.length_map,List.length_cons,List.length_nil]
  omega
 ·unfold Zfw at hc
  rcases List.mem_append.1 hc with hc | hc
  ·rcases List.mem_append.1 hc with hc | hc
   ·exact Zfp h hv c hc
   ·simp only[List.mem_map,List.mem_filter] at hc
    obtain⟨d,⟨hd,_⟩,rfl⟩:=hc
    obtain⟨_,f1,f2,_⟩:=Ze3 hl hd
    exact Zw8 (h.c (ZaT.1 hd).1) hv h.2.2.2 ⟨f1,f2⟩ hw
  ·simp only[List.mem_singleton] at hc
   subst hc
   exact⟨⟨.inr (.inr ⟨rfl,hl2,by show (ZbJ v p).1≤_;omega⟩),hw.linB (by omega) (by have:=h.2.2.2;omega)⟩,hw.1⟩
theorem Zf2(h:pieceN p n)(hv:(v:Int) < n)(hl:(ZbJ v p).2=0){d:Nat}(hd:d≤512):(Zch v p (n.toNat - 1) (ZbJ v p).1 d).length≤204800∧∀ q∈Zch v p (n.toNat - 1) (ZbJ v p).1 d,Zj5 (n.toNat - 1) q:=by
 unfold Zch
 split
 ·refine⟨by simp;omega,fun q hq=>?_⟩
  simp only[List.mem_map,List.mem_range] at hq
  obtain⟨j,hj,rfl⟩:=hq
  exact Zji h hv hl (ZlW (by omega)) false
 ·refine⟨?_,fun q hq=>?_⟩
  ·have h2:=ZcW (g:=fun c=>(List.range d).map fun j=>Zfw v p (ZbJ v p).1 (Zd0 v (ZbJ v p).1 c (Zg2 v p) j) true) (k:=512) (l:=Znh v p) fun x hx=>by simp;omega
   have h3:(Znh v p).length≤(Zu v p).length:=List.length_filter_le _ _
   have h4:(Zu v p).length≤p.length:=List.length_filter_le _ _
   have:=h.1
   have:=Nat.mul_le_mul (show (Znh v p).length≤400 by omega) (Nat.le_refl 512)
   omega
  ·simp only[List.mem_flatMap,List.mem_map,List.mem_range] at hq
   obtain⟨c,hc,j,hj,rfl⟩:=hq
   have hcp:=(List.mem_filter.1 hc).1
   obtain⟨_,f1,f2,_⟩:=Ze3 hl hcp
   exact Zji h hv hl (ZlH (h.c (ZaT.1 hcp).1) hv ⟨f1,f2⟩ (by omega)) true
end
theorem ZwU(v:Nat)(p:List Zc):eqI v p=-1∨(0≤eqI v p∧(eqI v p).toNat < p.length∧Ze v (p.getD (eqI v p).toNat Za)≠0∧(p.getD (eqI v p).toNat Za).1=1):=by
 unfold eqI
 have key : ∀ (l : List Nat) (e : Int), (∀ i ∈ l, i < p.length) → (e = -1 ∨ (0 ≤ e ∧ e.toNat < p.length ∧ Ze v (p.getD e.toNat Za) ≠ 0 ∧ (p.getD e.toNat Za).1 = 1)) →
  (l.foldl (ZeA v p) e=-1∨(0≤l.foldl (ZeA v p) e∧(l.foldl (ZeA v p) e).toNat < p.length∧Ze v (p.getD (l.foldl (ZeA v p) e).toNat Za)≠0∧(p.getD (l.foldl (ZeA v p) e).toNat Za).1=1)):=by
  intro l
  induction l with
  | nil=>exact fun e _ h=>h
  | cons i l ih =>
    refine fun e hl h=>ih _ (fun j hj=>hl j (List.mem_cons_of_mem _ hj)) ?_
    unfold ZeA
    split
    ·rename_i hc
     exact .inr ⟨by omega,by simpa using hl i (by simp),by simpa using hc.1,by simpa using hc.2.1⟩
    ·exact h
 exact key _ _ (fun i hi=>List.mem_range.1 hi) (.inl rfl)
theorem Zqq{p:List Zc}{n:Int}{v:Nat}(h:pieceN p n)(hv:(v:Int) < n){l:List (List Zc)}(hs:Zc9 p n.toNat v=some l):l.length≤204800∧∀ q∈l,Zj5 (n.toNat - 1) q:=by
 unfold Zc9 at hs
 split at hs
 ·rename_i he
  cases hs
  rcases ZwU v p with h1 | ⟨_,h2,h3,_⟩
  ·omega
  ·exact⟨by simp,fun q hq=>by rw[List.mem_singleton.1 hq];exact ZeS h hv h2 h3⟩
 ·split at hs
  ·cases hs
   exact⟨by simp,fun q hq=>by rw[List.mem_singleton.1 hq];exact⟨by have:=ZcM (v:=v) (p:=p);have:=h.1;omega,Zfp h hv⟩⟩
  ·split at hs
   ·cases hs
    exact⟨by simp,fun q hq=>by rw[List.mem_singleton.1 hq];exact Zhh h hv⟩
   ·split at hs
    ·cases hs
    ·rename_i hl
     split at hs
     ·cases hs
     ·rename_i hd
      cases hs
      have hl:(ZbJ v p).2=0:=by simpa using hl
      have hd:(Zfs v p (ZbJ v p).1).2=0:=by simpa using hd
      have:=Zov hd
      exact Zf2 h hv hl (by omega)
theorem Zd8{p:List Zc}{n v:Int}(h:pieceN p n)(hv0:0≤v)(hv:v < n)(h0:(ZT p n v).2=0):PD (n.toNat - 1) (ZT p n v).1∧Nm (ZT p n v).1∧∃ l,Zc9 p n.toNat v.toNat=some l∧ZdX l=some (ZT p n v).1:=by
 unfold ZT at h0 ⊢
 rcases Z8 (Zc9 p n.toNat v.toNat) with e | ⟨l,e⟩
 ·rw[e] at h0;cases h0
 ·simp only[e] at h0 ⊢
  unfold ZeH at h0 ⊢
  rcases Z8 (ZdX l) with e2 | ⟨out,e2⟩
  ·rw[e2] at h0;cases h0
  ·simp only[e2]
   have hg:=Zqq h (v:=v.toNat) (by omega) e
   obtain⟨k1,k2⟩:=PD.of_tid (fun q hq=>(hg.2 q hq).D) e2
   exact⟨k1,k2,l,rfl,e2⟩
theorem PD.pieceN{n:Nat}{l:List (List Zc)}(h:PD n l)(hn:n≤12){q:List Zc}(hq:q∈l):pieceN q (n:Int) :=
 ⟨by have:=(h.1.2 q hq).1;omega,fun c hc=>⟨(h.1.2 q hq).2 c hc,by rw[h.2 q hq c hc]⟩,by omega,by omega⟩
end
def Zz.wp(x0:List Zc)(x1:List Zc)(x2:Int)(Q:(List (List Zc))×Int→Prop):Prop:=let v18:=List.length ([]:List (Zc));Lp (σ:=Int×List Int) (fun y4 R4=>let v0:=List.getD x0 (Int.toNat y4.1) Za;let v1:=List.getD v0.2.2.1 (Int.toNat x2) (0:Int);let v2:=[Zo.fn (v1,())];cond (decide (y4.1 < ((List.length x0:Nat):Int))) (((0:Int)≤y4.1∧y4.1 < ((List.length x0:Nat):Int))∧(((0:Int)≤x2∧x2 < ((List.length v0.2.2.1:Nat):Int))∧cond (v1 != (0:Int)) (((0:Int)≤x2∧x2 < ((List.length v0.2.2.1:Nat):Int))∧(Zo.pre (v1,())∧((((List.length y4.2+List.length v2)*8)≤140737488355328∧(List.length y4.2+List.length v2)≤9223372036854775807)∧(Zm IntKind.i64 (y4.1+(1:Int))∧R4 ((y4.1+(1:Int)),(y4.2++v2)))))) (Zm IntKind.i64 (y4.1+(1:Int))∧R4 ((y4.1+(1:Int)),y4.2)))) (ZaG.pre (y4.2,())∧cond ((ZaG.fn (y4.2,())).2 != (0:Int)) (Q (([]:List (List (Zc))),(3:Int))) (Lp (σ:=Int×Int×Int×Int×(List Int)×List (Zc)) (fun y6 R6=>let v4:=List.getD x0 (Int.toNat y6.1) Za;let v5:=List.getD v4.2.2.1 (Int.toNat x2) (0:Int);let v6:=Int.tdiv ((ZaG.fn (y4.2,())).1) (Zo.fn (v5,()));let v7:=Int.tdiv v5 (Zo.fn (v5,()));let v8:=Zw.fn (v6,(v4.2.2,((0:Int),(v4.2.2,()))));let v9:=List.length y6.2.2.2.2.2;let v10:=List.set v8.1 (Int.toNat x2) v7;let v11:=[(v4.1,((v4.2.1*v6),(v10,v8.2)))];let v12:=List.length y6.2.2.2.2.1;let v13:=List.length ([(v4.2.1*v6)]);let v14:=List.replicate (Int.toNat y6.2.1) (0:Int);let v16:=[((2:Int),((ZaG.fn (y4.2,())).1,((List.set v14 (Int.toNat x2) (1:Int)),(0:Int))))];let v17:=ZaG.fn (y6.2.2.2.2.1,());let v19:=List.length (y6.2.2.2.2.2++v16);cond (decide (y6.1 < ((List.length x0:Nat):Int))) (((0:Int)≤y6.1∧y6.1 < ((List.length x0:Nat):Int))∧(((0:Int)≤x2∧x2 < ((List.length v4.2.2.1:Nat):Int))∧cond (v5 == (0:Int)) (Zm IntKind.i64 (y6.1+(1:Int))∧R6 ((y6.1+(1:Int)),y6.2)) (Zo.pre (v5,())∧((Zo.fn (v5,())≠(0:Int)∧Zm IntKind.i64 v6)∧(Zm IntKind.i64 (v4.2.1*v6)∧(Zw.pre (v6,(v4.2.2,((0:Int),(v4.2.2,()))))∧(Zo.pre (v5,())∧((Zo.fn (v5,())≠(0:Int)∧Zm IntKind.i64 v7)∧(((0:Int)≤x2∧x2 < ((List.length v8.1:Nat):Int))∧(Int.toNat x2 < List.length v8.1∧((((v9+List.length v11)*48)≤140737488355328∧(v9+List.length v11)≤9223372036854775807)∧cond (v4.1 == (2:Int)) ((((v12+v13)*8)≤140737488355328∧(v12+v13)≤9223372036854775807)∧(Zm IntKind.i64 (y6.1+(1:Int))∧R6 ((y6.1+(1:Int)),(((List.length v10:Nat):Int),(y6.2.2.1,(y6.2.2.2.1,((y6.2.2.2.2.1++[(v4.2.1*v6)]),(y6.2.2.2.2.2++v11)))))))) (cond (decide ((0:Int) < v5)) (Zm IntKind.i64 (y6.2.2.1+(1:Int))∧(Zm IntKind.i64 (y6.1+(1:Int))∧R6 ((y6.1+(1:Int)),(((List.length v10:Nat):Int),((y6.2.2.1+(1:Int)),(y6.2.2.2.1,(y6.2.2.2.2.1,(y6.2.2.2.2.2++v11)))))))) (Zm IntKind.i64 (y6.2.2.2.1+(1:Int))∧(Zm IntKind.i64 (y6.1+(1:Int))∧R6 ((y6.1+(1:Int)),(((List.length v10:Nat):Int),(y6.2.2.1,((y6.2.2.2.1+(1:Int)),(y6.2.2.2.2.1,(y6.2.2.2.2.2++v11)))))))))))))))))))) (((0:Int)≤y6.2.1∧(y6.2.1≤y6.2.1∧((y6.2.1*((8:Nat):Int))≤(140737488355328:Int)∧y6.2.1≤(9223372036854775807:Int))))∧(((0:Int)≤x2∧x2 < ((List.length v14:Nat):Int))∧(Int.toNat x2 < List.length v14∧((((v9+List.length v16)*48)≤140737488355328∧(v9+List.length v16)≤9223372036854775807)∧(ZaG.pre (y6.2.2.2.2.1,())∧cond (v17.2 != (0:Int)) (Q (([]:List (List (Zc))),(3:Int))) (((!(y6.2.2.1 == (0:Int)))=true→((!(y6.2.2.1 == (0:Int)))=true∧True))∧(((y6.2.2.1 == (0:Int))=false→(!(y6.2.2.1 == (0:Int)))=true)∧cond ((y6.2.2.1 == (0:Int))||(y6.2.2.2.1 == (0:Int))) (Lp (σ:=Int×List (List (Zc))) (fun y8 R8=>let v21:=ZX.fn ((y6.2.1 - (1:Int)),(y8.1,()));cond (decide (y8.1 < v17.1)) ((((v18+List.length x1)*48)≤140737488355328∧(v18+List.length x1)≤9223372036854775807)∧Lp (σ:=Int×List (Zc)) (fun y10 R10=>let v20:=List.getD (y6.2.2.2.2.2++v16) (Int.toNat y10.1) Za;let v22:=Zai.fn (v20,(x2,((1:Int),((1:Int),(v21,())))));cond (decide (y10.1 < ((v19:Nat):Int))) (((0:Int)≤y10.1∧y10.1 < ((v19:Nat):Int))∧(Int.toNat y10.1 < v19∧cond (v20.1 == (2:Int)) (Zm IntKind.i64 (y6.2.1 - (1:Int))∧(ZX.pre ((y6.2.1 - (1:Int)),(y8.1,()))∧(Zai.pre (v20,(x2,((1:Int),((1:Int),(v21,())))))∧((((List.length y10.2+List.length [v22])*48)≤140737488355328∧(List.length y10.2+List.length [v22])≤9223372036854775807)∧(Zm IntKind.i64 (y10.1+(1:Int))∧R10 ((y10.1+(1:Int)),(y10.2++[v22]))))))) (Zm IntKind.i64 (y10.1+(1:Int))∧R10 ((y10.1+(1:Int)),y10.2)))) ((((List.length y8.2+List.length [y10.2])*24)≤140737488355328∧(List.length y8.2+List.length [y10.2])≤9223372036854775807)∧(Zm IntKind.i64 (y8.1+(1:Int))∧R8 ((y8.1+(1:Int)),(y8.2++[y10.2]))))) ((0:Int),(([]:List (Zc))++x1))) (ZL.pre (y8.2,())∧Q (ZL.fn (y8.2,())))) ((0:Int),([]:List (List (Zc))))) (cond (decide (y6.2.2.2.1 < y6.2.2.1)) (Lp (σ:=Int×List (List (Zc))) (fun y8 R8=>let v24:=List.getD (y6.2.2.2.2.2++v16) (Int.toNat y8.1) Za;let v26:=Zn.fn (v24.2.2,(x2,()));cond (decide (y8.1 < ((v19:Nat):Int))) (((0:Int)≤y8.1∧y8.1 < ((v19:Nat):Int))∧(Int.toNat y8.1 < v19∧(((!(v24.1 == (2:Int)))=true→((!(v24.1 == (2:Int)))=true∧True))∧(((!(v24.1 == (2:Int)))=true→((!(v24.1 == (2:Int)))=true∧True))∧(((!(v24.1 == (2:Int)))=true→((!(v24.1 == (2:Int)))=true∧((!(v24.1 == (2:Int)))=true∧((0:Int)≤x2∧x2 < ((List.length v24.2.2.1:Nat):Int)))))∧(((!(v24.1 == (2:Int)))=true→((!(v24.1 == (2:Int)))=true∧True))∧(((!(v24.1 == (2:Int)))=true→((!(v24.1 == (2:Int)))=true∧((!(v24.1 == (2:Int)))=true∧True)))∧(((v24.1 == (2:Int))=false→(!(v24.1 == (2:Int)))=true)∧cond ((v24.1 == (2:Int))||((List.getD v24.2.2.1 (Int.toNat x2) (0:Int)) != (-(1:Int)))) (Zm IntKind.i64 (y8.1+(1:Int))∧R8 ((y8.1+(1:Int)),y8.2)) (Zn.pre (v24.2.2,(x2,()))∧Lp (σ:=Int×List (List (Zc))) (fun y10 R10=>let v27:=ZX.fn ((y6.2.1 - (1:Int)),(y10.1,()));let v28:=Zw.fn ((-(-(1:Int))),(v26,((-(1:Int)),(v27,()))));cond (decide (y10.1 < v17.1)) (Zm IntKind.i64 (-(-(1:Int)))∧(Zm IntKind.i64 (y6.2.1 - (1:Int))∧(ZX.pre ((y6.2.1 - (1:Int)),(y10.1,()))∧(Zw.pre ((-(-(1:Int))),(v26,((-(1:Int)),(v27,()))))∧((((v18+List.length x1)*48)≤140737488355328∧(v18+List.length x1)≤9223372036854775807)∧Lp (σ:=Int×((List Int)×Int)×(List (Zc))×(List Int)×Int) (fun y12 R12=>let v29:=List.getD (y6.2.2.2.2.2++v16) (Int.toNat y12.1) Za;let v30:=Zai.fn (v29,(x2,((1:Int),((1:Int),(y12.2.2.2,())))));cond (decide (y12.1 < ((v19:Nat):Int))) (((0:Int)≤y12.1∧y12.1 < ((v19:Nat):Int))∧(Int.toNat y12.1 < v19∧(Zai.pre (v29,(x2,((1:Int),((1:Int),(y12.2.2.2,())))))∧((((List.length y12.2.2.1+List.length [v30])*48)≤140737488355328∧(List.length y12.2.2.1+List.length [v30])≤9223372036854775807)∧(Zm IntKind.i64 (y12.1+(1:Int))∧R12 ((y12.1+(1:Int)),(y12.2.1,((y12.2.2.1++[v30]),y12.2.2.2)))))))) ((((List.length y10.2+List.length [y12.2.2.1])*24)≤140737488355328∧(List.length y10.2+List.length [y12.2.2.1])≤9223372036854775807)∧(Zm IntKind.i64 (y10.1+(1:Int))∧R10 ((y10.1+(1:Int)),(y10.2++[y12.2.2.1]))))) ((0:Int),(v28,((([]:List (Zc))++x1),v28)))))))) (Zm IntKind.i64 (y8.1+(1:Int))∧R8 ((y8.1+(1:Int)),y10.2))) ((0:Int),y8.2)))))))))) (ZL.pre (y8.2,())∧Q (ZL.fn (y8.2,())))) ((0:Int),([]:List (List (Zc))))) (Lp (σ:=Int×List (List (Zc))) (fun y8 R8=>let v24:=List.getD (y6.2.2.2.2.2++v16) (Int.toNat y8.1) Za;let v26:=Zn.fn (v24.2.2,(x2,()));cond (decide (y8.1 < ((v19:Nat):Int))) (((0:Int)≤y8.1∧y8.1 < ((v19:Nat):Int))∧(Int.toNat y8.1 < v19∧(((!(v24.1 == (2:Int)))=true→((!(v24.1 == (2:Int)))=true∧True))∧(((!(v24.1 == (2:Int)))=true→((!(v24.1 == (2:Int)))=true∧True))∧(((!(v24.1 == (2:Int)))=true→((!(v24.1 == (2:Int)))=true∧((!(v24.1 == (2:Int)))=true∧((0:Int)≤x2∧x2 < ((List.length v24.2.2.1:Nat):Int)))))∧(((!(v24.1 == (2:Int)))=true→((!(v24.1 == (2:Int)))=true∧True))∧(((!(v24.1 == (2:Int)))=true→((!(v24.1 == (2:Int)))=true∧((!(v24.1 == (2:Int)))=true∧True)))∧(((v24.1 == (2:Int))=false→(!(v24.1 == (2:Int)))=true)∧cond ((v24.1 == (2:Int))||((List.getD v24.2.2.1 (Int.toNat x2) (0:Int)) != (1:Int))) (Zm IntKind.i64 (y8.1+(1:Int))∧R8 ((y8.1+(1:Int)),y8.2)) (Zn.pre (v24.2.2,(x2,()))∧Lp (σ:=Int×List (List (Zc))) (fun y10 R10=>let v27:=ZX.fn ((y6.2.1 - (1:Int)),(y10.1,()));let v31:=Zw.fn ((-(1:Int)),(v26,((1:Int),(v27,()))));cond (decide (y10.1 < v17.1)) (Zm IntKind.i64 (-(1:Int))∧(Zm IntKind.i64 (y6.2.1 - (1:Int))∧(ZX.pre ((y6.2.1 - (1:Int)),(y10.1,()))∧(Zw.pre ((-(1:Int)),(v26,((1:Int),(v27,()))))∧((((v18+List.length x1)*48)≤140737488355328∧(v18+List.length x1)≤9223372036854775807)∧Lp (σ:=Int×((List Int)×Int)×(List (Zc))×(List Int)×Int) (fun y12 R12=>let v29:=List.getD (y6.2.2.2.2.2++v16) (Int.toNat y12.1) Za;let v30:=Zai.fn (v29,(x2,((1:Int),((1:Int),(y12.2.2.2,())))));cond (decide (y12.1 < ((v19:Nat):Int))) (((0:Int)≤y12.1∧y12.1 < ((v19:Nat):Int))∧(Int.toNat y12.1 < v19∧(Zai.pre (v29,(x2,((1:Int),((1:Int),(y12.2.2.2,())))))∧((((List.length y12.2.2.1+List.length [v30])*48)≤140737488355328∧(List.length y12.2.2.1+List.length [v30])≤9223372036854775807)∧(Zm IntKind.i64 (y12.1+(1:Int))∧R12 ((y12.1+(1:Int)),(y12.2.1,((y12.2.2.1++[v30]),y12.2.2.2)))))))) ((((List.length y10.2+List.length [y12.2.2.1])*24)≤140737488355328∧(List.length y10.2+List.length [y12.2.2.1])≤9223372036854775807)∧(Zm IntKind.i64 (y10.1+(1:Int))∧R10 ((y10.1+(1:Int)),(y10.2++[y12.2.2.1]))))) ((0:Int),(v31,((([]:List (Zc))++x1),v31)))))))) (Zm IntKind.i64 (y8.1+(1:Int))∧R8 ((y8.1+(1:Int)),y10.2))) ((0:Int),y8.2)))))))))) (ZL.pre (y8.2,())∧Q (ZL.fn (y8.2,())))) ((0:Int),([]:List (List (Zc)))))))))))))) ((0:Int),((0:Int),((0:Int),((0:Int),(([(ZaG.fn (y4.2,())).1]),([]:List (Zc)))))))))) ((0:Int),([]:List Int))
def Zae.wp(x0:List Zc)(x1:Int)(x2:Int)(Q:(List (List Zc))×Int→Prop):Prop:=Lp (σ:=Int×Int×(List (Zc))×(List (Zc))×(List (Zc))×List (Zc)) (fun y4 R4=>let v0:=List.getD x0 (Int.toNat y4.1) Za;let v1:=List.getD v0.2.2.1 (Int.toNat x2) (0:Int);let v3:=[(v0.1,(v0.2.1,(Zn.fn (v0.2.2,(x2,())))))];let v4:=List.getD x0 (Int.toNat y4.2.1) Za;let v5:=List.getD v4.2.2.1 (Int.toNat x2) (0:Int);let v6:=List.length y4.2.2.2.2.1;let v7:=List.length y4.2.2.2.2.2;let v8:=Zaf.fn (x0,(y4.2.1,(x2,())));cond (decide (y4.1 < ((List.length x0:Nat):Int))) (((0:Int)≤y4.1∧y4.1 < ((List.length x0:Nat):Int))∧(((0:Int)≤x2∧x2 < ((List.length v0.2.2.1:Nat):Int))∧cond (v1 == (0:Int)) (Zn.pre (v0.2.2,(x2,()))∧((((List.length y4.2.2.1+List.length v3)*48)≤140737488355328∧(List.length y4.2.2.1+List.length v3)≤9223372036854775807)∧(Zm IntKind.i64 (y4.1+(1:Int))∧R4 ((y4.1+(1:Int)),(y4.2.1,((y4.2.2.1++v3),y4.2.2.2)))))) (cond (v0.1 == (1:Int)) (((!(decide (y4.2.1 < (0:Int))))=true→((!(decide (y4.2.1 < (0:Int))))=true∧Zo.pre (v1,())))∧(((!(decide (y4.2.1 < (0:Int))))=true→((!(decide (y4.2.1 < (0:Int))))=true∧((!(decide (y4.2.1 < (0:Int))))=true∧((0:Int)≤y4.2.1∧y4.2.1 < ((List.length x0:Nat):Int)))))∧(((!(decide (y4.2.1 < (0:Int))))=true→((!(decide (y4.2.1 < (0:Int))))=true∧True))∧(((!(decide (y4.2.1 < (0:Int))))=true→((!(decide (y4.2.1 < (0:Int))))=true∧True))∧(((!(decide (y4.2.1 < (0:Int))))=true→((!(decide (y4.2.1 < (0:Int))))=true∧True))∧(((!(decide (y4.2.1 < (0:Int))))=true→((!(decide (y4.2.1 < (0:Int))))=true∧((!(decide (y4.2.1 < (0:Int))))=true∧((0:Int)≤x2∧x2 < ((List.length v4.2.2.1:Nat):Int)))))∧(((!(decide (y4.2.1 < (0:Int))))=true→((!(decide (y4.2.1 < (0:Int))))=true∧True))∧(((!(decide (y4.2.1 < (0:Int))))=true→((!(decide (y4.2.1 < (0:Int))))=true∧Zo.pre (v5,())))∧(((!(decide (y4.2.1 < (0:Int))))=true→((!(decide (y4.2.1 < (0:Int))))=true∧((!(decide (y4.2.1 < (0:Int))))=true∧True)))∧((decide (y4.2.1 < (0:Int))=false→(!(decide (y4.2.1 < (0:Int))))=true)∧cond (decide (y4.2.1 < (0:Int))||decide (Zo.fn (v1,()) < Zo.fn (v5,()))) (Zm IntKind.i64 (y4.1+(1:Int))∧R4 ((y4.1+(1:Int)),(y4.1,y4.2.2))) (Zm IntKind.i64 (y4.1+(1:Int))∧R4 ((y4.1+(1:Int)),y4.2)))))))))))) (cond (v0.1 == (2:Int)) ((((List.length y4.2.2.2.1+List.length [v0])*48)≤140737488355328∧(List.length y4.2.2.2.1+List.length [v0])≤9223372036854775807)∧(Zm IntKind.i64 (y4.1+(1:Int))∧R4 ((y4.1+(1:Int)),(y4.2.1,(y4.2.2.1,((y4.2.2.2.1++[v0]),y4.2.2.2.2)))))) (cond (decide ((0:Int) < v1)) ((((v6+List.length [v0])*48)≤140737488355328∧(v6+List.length [v0])≤9223372036854775807)∧(Zm IntKind.i64 (y4.1+(1:Int))∧R4 ((y4.1+(1:Int)),(y4.2.1,(y4.2.2.1,(y4.2.2.2.1,((y4.2.2.2.2.1++[v0]),y4.2.2.2.2.2))))))) ((((v7+List.length [v0])*48)≤140737488355328∧(v7+List.length [v0])≤9223372036854775807)∧(Zm IntKind.i64 (y4.1+(1:Int))∧R4 ((y4.1+(1:Int)),(y4.2.1,(y4.2.2.1,(y4.2.2.2.1,(y4.2.2.2.2.1,(y4.2.2.2.2.2++[v0]))))))))))))) (cond (decide ((0:Int)≤y4.2.1)) (Zaf.pre (x0,(y4.2.1,(x2,())))∧(ZL.pre ([v8],())∧Q (ZL.fn ([v8],())))) (((((List.length y4.2.2.2.1:Nat):Int) == (0:Int))=true→((((List.length y4.2.2.2.1:Nat):Int) == (0:Int))=true∧True))∧(((((List.length y4.2.2.2.1:Nat):Int) == (0:Int))=true→((((List.length y4.2.2.2.1:Nat):Int) == (0:Int))=true∧True))∧(((((List.length y4.2.2.2.1:Nat):Int) == (0:Int))=true→((((List.length y4.2.2.2.1:Nat):Int) == (0:Int))=true∧True))∧((((((List.length y4.2.2.2.1:Nat):Int) == (0:Int))&&(!(((v6:Nat):Int) == (0:Int))))=true→(((((List.length y4.2.2.2.1:Nat):Int) == (0:Int))&&(!(((v6:Nat):Int) == (0:Int))))=true∧True))∧((((((List.length y4.2.2.2.1:Nat):Int) == (0:Int))&&(!(((v6:Nat):Int) == (0:Int))))=true→(((((List.length y4.2.2.2.1:Nat):Int) == (0:Int))&&(!(((v6:Nat):Int) == (0:Int))))=true∧True))∧(((((List.length y4.2.2.2.1:Nat):Int) == (0:Int))=true→((((List.length y4.2.2.2.1:Nat):Int) == (0:Int))=true∧((((v6:Nat):Int) == (0:Int))=false→((((List.length y4.2.2.2.1:Nat):Int) == (0:Int))&&(!(((v6:Nat):Int) == (0:Int))))=true)))∧(((((List.length y4.2.2.2.1:Nat):Int) == (0:Int))=true→(((List.length y4.2.2.2.1:Nat):Int) == (0:Int))=true)∧cond ((((List.length y4.2.2.2.1:Nat):Int) == (0:Int))&&((((v6:Nat):Int) == (0:Int))||(((v7:Nat):Int) == (0:Int)))) (ZL.pre ([y4.2.2.1],())∧Q (ZL.fn ([y4.2.2.1],()))) (Lp (σ:=Int×Bool) (fun y6 R6=>let v11:=List.getD y4.2.2.2.2.1 (Int.toNat y6.1) Za;let v12:=List.getD v11.2.2.1 (Int.toNat x2) (0:Int);cond (decide (y6.1 < ((v6:Nat):Int))) (((0:Int)≤y6.1∧y6.1 < ((v6:Nat):Int))∧(Int.toNat y6.1 < v6∧Lp (σ:=Int×Bool) (fun y8 R8=>let v13:=List.getD y4.2.2.2.2.2 (Int.toNat y8.1) Za;cond (decide (y8.1 < ((v7:Nat):Int))) (((0:Int)≤y8.1∧y8.1 < ((v7:Nat):Int))∧(Int.toNat y8.1 < v7∧((y8.2=true→(y8.2=true∧True))∧((y8.2=true→(y8.2=true∧True))∧((y8.2=true→(y8.2=true∧(y8.2=true∧((0:Int)≤x2∧x2 < ((List.length v11.2.2.1:Nat):Int)))))∧((y8.2=true→(y8.2=true∧True))∧((y8.2=true→(y8.2=true∧True))∧((y8.2=true→(y8.2=true∧True))∧(((y8.2&&(!(v12 == (1:Int))))=true→((y8.2&&(!(v12 == (1:Int))))=true∧True))∧(((y8.2&&(!(v12 == (1:Int))))=true→((y8.2&&(!(v12 == (1:Int))))=true∧True))∧(((y8.2&&(!(v12 == (1:Int))))=true→((y8.2&&(!(v12 == (1:Int))))=true∧((y8.2&&(!(v12 == (1:Int))))=true∧((0:Int)≤x2∧x2 < ((List.length v13.2.2.1:Nat):Int)))))∧(((y8.2&&(!(v12 == (1:Int))))=true→((y8.2&&(!(v12 == (1:Int))))=true∧True))∧(((y8.2&&(!(v12 == (1:Int))))=true→((y8.2&&(!(v12 == (1:Int))))=true∧True))∧((y8.2=true→(y8.2=true∧((v12 == (1:Int))=false→(y8.2&&(!(v12 == (1:Int))))=true)))∧((y8.2=true→y8.2=true)∧(Zm IntKind.i64 (y8.1+(1:Int))∧R8 ((y8.1+(1:Int)),(y8.2&&((v12 == (1:Int))||((List.getD v13.2.2.1 (Int.toNat x2) (0:Int)) == (-(1:Int)))))))))))))))))))))) (Zm IntKind.i64 (y6.1+(1:Int))∧R6 ((y6.1+(1:Int)),y8.2))) ((0:Int),y6.2))) (cond y6.2 (Lp (σ:=Int×List (Zc)) (fun y8 R8=>let v15:=List.getD y4.2.2.2.2.1 (Int.toNat y8.1) Za;let v18:=List.getD v15.2.2.1 (Int.toNat x2) (0:Int);let v20:=Zn.fn (v15.2.2,(x2,()));cond (decide (y8.1 < ((v6:Nat):Int))) (((0:Int)≤y8.1∧y8.1 < ((v6:Nat):Int))∧(Int.toNat y8.1 < v6∧Lp (σ:=Int×List (Zc)) (fun y10 R10=>let v16:=List.getD y4.2.2.2.2.2 (Int.toNat y10.1) Za;let v17:=List.getD v16.2.2.1 (Int.toNat x2) (0:Int);let v19:=Zn.fn (v16.2.2,(x2,()));let v22:=[((0:Int),((0:Int),(Zw.fn (v18,(v19,((-v17),(v20,())))))))];cond (decide (y10.1 < ((v7:Nat):Int))) (((0:Int)≤y10.1∧y10.1 < ((v7:Nat):Int))∧(Int.toNat y10.1 < v7∧(((0:Int)≤x2∧x2 < ((List.length v15.2.2.1:Nat):Int))∧(Zn.pre (v16.2.2,(x2,()))∧(((0:Int)≤x2∧x2 < ((List.length v16.2.2.1:Nat):Int))∧(Zm IntKind.i64 (-v17)∧(Zn.pre (v15.2.2,(x2,()))∧(Zw.pre (v18,(v19,((-v17),(v20,()))))∧((((List.length y10.2+List.length v22)*48)≤140737488355328∧(List.length y10.2+List.length v22)≤9223372036854775807)∧(Zm IntKind.i64 (y10.1+(1:Int))∧R10 ((y10.1+(1:Int)),(y10.2++v22)))))))))))) (Zm IntKind.i64 (y8.1+(1:Int))∧R8 ((y8.1+(1:Int)),y10.2))) ((0:Int),y8.2))) (ZL.pre ([y8.2],())∧Q (ZL.fn ([y8.2],())))) ((0:Int),y4.2.2.1)) (Zz.pre (x0,(y4.2.2.1,(x2,())))∧Q (Zz.fn (x0,(y4.2.2.1,(x2,()))))))) ((0:Int),(((List.length y4.2.2.2.1:Nat):Int) == (0:Int))))))))))))) ((0:Int),((-(1:Int)),(([]:List (Zc)),(([]:List (Zc)),(([]:List (Zc)),([]:List (Zc)))))))
def Zoq(v:Nat)(l:Int)(c:Zc):Zc:=(c.1,c.2.1*Zca v l c,((ZcF (Zca v l c) c.2.2 0 c.2.2).1.set v ((Ze v c).tdiv (Zbh (Ze v c))),(ZcF (Zca v l c) c.2.2 0 c.2.2).2))
theorem ZdF(f:Int)(l:Lin):ZcF f l 0 l=(l.1.map fun n=>f*n,f*l.2):=by
 unfold ZcF
 congr 1
 ·apply List.ext_getElem (by simp)
  intro i h1 h2
  simp only[List.length_map,List.length_range] at h1
  simp only[List.getElem_map,List.getElem_range]
  rw[ZN h1];omega
 ·omega
theorem ZpJ{l:List Int}{i:Nat}{x:Int}:Zdg (l.set i x) i=Zdg l i:=by
 unfold Zdg
 rw[List.take_set_of_le (Nat.le_refl i),List.drop_set_of_lt (Nat.lt_succ_self i)]
theorem ZtZ{l:List Int}{i:Nat}{g:Int→Int}:Zdg (l.map g) i=(Zdg l i).map g:=by
 unfold Zdg
 rw[List.map_append,List.map_take,List.map_drop]
theorem ZtA{n i:Nat}{x:Int}(h:i < n):Zdg (List.replicate n x) i=List.replicate (n - 1) x:=by
 unfold Zdg
 rw[List.take_replicate,List.drop_replicate,List.replicate_append_replicate]
 congr 1;omega
theorem Zl1{a:Int}(h:a≠0):a.tdiv (Zbh a)=ZnA a:=by
 unfold ZnA Zbh
 split
 ·rw[show max a (-a)=-a by omega,Int.tdiv_neg,Int.tdiv_self h]
 ·rw[show max a (-a)=a by omega,Int.tdiv_self h]
theorem Zjk(v:Nat)(l:Int)(c:Zc):ZaN v (Zoq v l c)=ZjU v l c:=by
 unfold ZaN Zoq ZjU
 simp only[ZdF,ZpJ,ZtZ]
 rfl
theorem Zis{v:Nat}{l:Int}{c:Zc}(h:v < c.2.2.1.length)(h0:Ze v c≠0):Ze v (Zoq v l c)=ZnA (Ze v c):=by
 show List.getD (List.set (ZcF (Zca v l c) c.2.2 0 c.2.2).1 v ((Ze v c).tdiv (Zbh (Ze v c)))) v 0=_
 rw[ZdF,List.getD_eq_getElem?_getD,List.getElem?_set]
 simp[h,Zl1 h0]
def ZeE(N v:Nat)(l:Int):Zc:=(2,l,(List.replicate N (0:Int)).set v 1,0)
theorem Zin{N v:Nat}{l:Int}(h:v < N):ZaN v (ZeE N v l)=(List.replicate (N - 1) 0,0):=by
 unfold ZaN ZeE
 simp only[ZpJ,ZtA h]
theorem Zix{N v:Nat}{l:Int}(h:v < N):Ze v (ZeE N v l)=1:=by
 show List.getD (List.set (List.replicate N (0:Int)) v 1) v 0=1
 rw[List.getD_eq_getElem?_getD,List.getElem?_set]
 simp[h]
theorem ZtC{k:Nat}{w:Lin}(h:w.1.length=k):ZcF 1 (List.replicate k 0,0) 1 w=w:=by
 obtain⟨C,K⟩:=w
 unfold ZcF
 congr 1
 ·apply List.ext_getElem (by simpa using h.symm)
  intro i h1 h2
  simp only[List.length_map,List.length_range,List.length_replicate] at h1
  simp only[List.getElem_map,List.getElem_range]
  rw[ZN (by simpa using h1),ZN h2];simp
 ·simp
def ZsL(v:Nat)(w:Lin)(c:Zc):Zc:=(c.1,c.2.1*1,ZcF 1 (ZaN v c) (Ze v c*1) w)
theorem Ztl{v:Nat}{l:Int}{w:Lin}{c:Zc}(h:v < c.2.2.1.length)(h0:Ze v c≠0):ZsL v w (Zoq v l c)=ZvZ v l w c:=by
 unfold ZsL ZvZ
 rw[Zjk,Zis h h0,Int.mul_one,Int.mul_one]
 rfl
theorem Zp4{N v:Nat}{l:Int}{w:Lin}(h:v < N)(hw:w.1.length=N - 1):ZsL v w (ZeE N v l)=(2,l,w):=by
 unfold ZsL
 rw[Zin h,Zix h,Int.mul_one,Int.mul_one,ZtC hw]
 rfl
theorem Zvz {p : List Zc} {n : Int} {v : Nat} (h : pieceN p n) (hv : (v : Int) < n) {l : Int} {w : Lin} (hw : w.1.length = n.toNat - 1) (all : Bool) :
 Zb1 v p++((((Zu v p).map (Zoq v l))++[ZeE n.toNat v l]).filter fun c=>all||decide (c.1=2)).map (ZsL v w)=Zfw v p l w all:=by
 unfold Zfw
 rw[List.filter_append,List.map_append,← List.append_assoc]
 congr 1
 ·congr 1
  rw[List.filter_map,List.map_map]
  have e:((fun c:Zc=>all||decide (c.1=2))∘Zoq v l)=fun c:Zc=>all||decide (c.1=2):=rfl
  rw[e]
  apply List.map_congr_left
  intro c hc
  have hcp:=ZaT.1 (List.mem_filter.1 hc).1
  have:=(h.c hcp.1).2
  exact Ztl (by omega) hcp.2
 ·rw[List.filter_cons_of_pos (by simp[ZeE]),List.filter_nil]
  simp only[List.map_cons,List.map_nil]
  rw[Zp4 (by omega) hw]
theorem Zju{α β:Type}(f:α→Bool)(g:α→List β):∀ l:List α,(l.flatMap fun x=>if f x=true then g x else [])=(l.filter f).flatMap g
 | []=>rfl
 | x::l=>by
   rw[List.flatMap_cons,Zju f g l]
   by_cases hf:f x=true
   ·rw[if_pos hf,List.filter_cons_of_pos hf,List.flatMap_cons]
   ·rw[if_neg hf,List.filter_cons_of_neg hf,List.nil_append]
theorem Zkj(v:Nat)(q:List Zc)(c:Zc):Zu v (q++[c])=Zu v q++if Ze v c≠0 then [c] else []:=by
 unfold Zu
 rw[List.filter_append]
 congr 1
 by_cases h:Ze v c≠0<;>simp[h]
theorem ZsO(v:Nat)(q:List Zc)(c:Zc):(Zb8 v (q++[c])).length=(Zb8 v q).length+if Ze v c≠0∧c.1≠1∧c.1≠2∧0 < Ze v c then 1 else 0:=by
 unfold Zb8
 rw[List.filter_append,List.length_append]
 congr 1
 by_cases h:Ze v c≠0∧c.1≠1∧c.1≠2∧0 < Ze v c
 ·rw[if_pos h,List.filter_cons_of_pos (by simpa using h)];rfl
 ·rw[if_neg h,List.filter_cons_of_neg (by simpa using h)];rfl
theorem Zto(v:Nat)(q:List Zc)(c:Zc):(upP v (q++[c])).length=(upP v q).length+if Ze v c≠0∧c.1≠1∧c.1≠2∧¬ 0 < Ze v c then 1 else 0:=by
 unfold upP
 rw[List.filter_append,List.length_append]
 congr 1
 by_cases h:Ze v c≠0∧c.1≠1∧c.1≠2∧¬ 0 < Ze v c
 ·rw[if_pos h,List.filter_cons_of_pos (by simpa using h)];rfl
 ·rw[if_neg h,List.filter_cons_of_neg (by simpa using h)];rfl
theorem ZrP{c:Zc}(h:Zd c=true)(h2:c.1=2):1≤c.2.1∧c.2.1≤512:=by
 unfold Zd at h
 rw[if_neg (by omega),if_pos h2] at h
 simp only[Bool.and_eq_true,decide_eq_true_iff] at h
 omega
theorem Zl8{c:Zc}{n:Int}{v:Nat}{l:Int}(h:Zd c=true∧(c.2.2.1.length:Int)=n)(hv:(v:Int) < n)(hn:n≤12)(hf:1≤Zca v l c∧Zca v l c≤512)(h0:Ze v c≠0):Zxf n.toNat (Zoq v l c):=by
 have hM:-512≤c.2.1∧c.2.1≤512:=by
  rcases Zfz h.1 with h1 | h1 | ⟨h1,_,_⟩
  ·have:=h.1;unfold Zd at this;rw[if_pos (.inl h1)] at this;simp only[Bool.and_eq_true,beq_iff_eq] at this;omega
  ·have:=h.1;unfold Zd at this;rw[if_pos (.inr h1)] at this;simp only[Bool.and_eq_true,beq_iff_eq] at this;omega
  ·have:=ZrP h.1 h1;omega
 have hm:=ZdA (n:=512) (m:=512) (by omega) (by omega) hM.1 hM.2 (show -512≤Zca v l c by omega) hf.2
 have hl:=Z4.b (Zd.lin h.1)
 have key:∀ x:Int,(-1048576≤x∧x≤1048576)→-536870912≤Zca v l c*x∧Zca v l c*x≤536870912:=fun x hx =>
  ZdA (n:=512) (m:=1048576) (by omega) (by omega) (by omega) hf.2 hx.1 hx.2
 have hlen:(Zoq v l c).2.2.1.length=n.toNat:=by
  show ((ZcF (Zca v l c) c.2.2 0 c.2.2).1.set v _).length=_
  rw[ZdF,List.length_set,List.length_map];omega
 refine⟨by show -1048576≤c.2.1*Zca v l c∧c.2.1*Zca v l c≤1048576;omega,⟨by show (Zoq v l c).2.2.1.length≤_;omega,fun x hx=>?_,?_⟩,hlen⟩
 ·have hx':x∈(ZcF (Zca v l c) c.2.2 0 c.2.2).1.set v ((Ze v c).tdiv (Zbh (Ze v c))):=hx
  rw[Zl1 h0,ZdF] at hx'
  rcases List.mem_or_eq_of_mem_set hx' with hx' | rfl
  ·simp only[List.mem_map] at hx'
   obtain⟨y,hy,rfl⟩:=hx'
   have:=key y (hl.2.1 y hy)
   omega
  ·unfold ZnA;split<;>omega
 ·show -4294967296≤(ZcF (Zca v l c) c.2.2 0 c.2.2).2∧(ZcF (Zca v l c) c.2.2 0 c.2.2).2≤4294967296
  rw[ZdF]
  have:=key _ hl.2.2
  simp only;omega
theorem Zq7{N v:Nat}{l:Int}(hN:N≤12)(hl:1≤l∧l≤512):Zxf N (ZeE N v l):=by
 refine⟨by show -1048576≤l∧l≤1048576;omega,⟨by show ((List.replicate N (0:Int)).set v 1).length≤_;rw[List.length_set,List.length_replicate];omega,fun x hx=>?_,by show (-4294967296:Int)≤0∧(0:Int)≤4294967296;omega⟩,by show ((List.replicate N (0:Int)).set v 1).length=N;rw[List.length_set,List.length_replicate]⟩
 have hx':x∈(List.replicate N (0:Int)).set v 1:=hx
 rcases List.mem_or_eq_of_mem_set hx' with hx' | rfl
 ·rw[(List.mem_replicate.1 hx').2];omega
 ·omega
end Go.Proofs.YtgpdnmfpgkkgcaaGreatDoor
