/- Part of a proof that a law of the program holds for every input: what the functions answer, in plain Lean. No conditions. -/
import Derived.Test.YtgpdnmfpgkkgcaaGreatDoorP12
namespace Go.Proofs.YtgpdnmfpgkkgcaaGreatDoor
open Go
set_option linter.unusedVariables false
theorem ZE.spec (a:Int) (l:Lin) (b:Int) (m:Lin) (hp:ZE.pre (a,l,b,m,())):ZE.wp a l b m (fun r=>r=ZE.fn (a,l,b,m,())):=ZbL.spec a l b m hp
theorem ZY.spec (l:Lin) (k:Int) (hp:ZY.pre (l,k,())):ZY.wp l k (fun r=>r=ZY.fn (l,k,())):=by
 obtain ⟨⟨h1,h2,h3⟩,h4,h5⟩:=hp
 simp only at h1 h2 h3 h4 h5
 exact ⟨by omega,⟨by omega,by omega⟩,rfl⟩
theorem Z7.spec (n:Int) (hp:Z7.pre (n,())):Z7.wp n (fun r=>r=Z7.fn (n,())):=by
 obtain ⟨h1,h2⟩:=hp
 simp only at h1 h2
 exact ⟨⟨by omega,by omega⟩,rfl⟩
theorem Zwp (l:List Int):∀ m:Nat,l.foldl (fun m n=>Nat.lcm m n.natAbs) m=Nat.lcm m (ZjD l):=by
 induction l with
 | nil=>intro m;simp [ZjD]
 | cons n l ih =>
   intro m
   have h0:ZjD (n::l)=Nat.lcm n.natAbs (ZjD l):=by
    show (n::l).foldl _ 1=_
    rw [List.foldl_cons,ih,Nat.lcm_one_left]
   rw [List.foldl_cons,ih,h0,Nat.lcm_assoc]
theorem Zic (n:Int) (l:List Int):ZjD (n::l)=Nat.lcm n.natAbs (ZjD l):=by
 show (n::l).foldl _ 1=_
 rw [List.foldl_cons,Zwp,Nat.lcm_one_left]
theorem ZnP {l:List Int} (h:∀ n∈l,1≤n):1≤ZjD l:=by
 induction l with
 | nil=>simp [ZjD]
 | cons n l ih =>
   rw [Zic]
   have h1:=h n (by simp)
   exact Nat.lcm_pos (by omega) (ih fun m hm=>h m (List.mem_cons_of_mem _ hm))
theorem Zj3 {l:List Int} {n:Int} (h:n∈l):n ∣ (ZjD l:Int):=by
 induction l with
 | nil=>simp at h
 | cons m l ih =>
   rw [Zic]
   rcases List.mem_cons.1 h with rfl | h
   ·exact Int.natAbs_dvd.1 (Int.natCast_dvd_natCast.2 (Nat.dvd_lcm_left _ _))
   ·exact Int.dvd_trans (ih h) (Int.natCast_dvd_natCast.2 (Nat.dvd_lcm_right _ _))
theorem Zjs (l:List Int):(Zmc l).2=1∨(Zmc l).2=3∨((Zmc l).2=0∧(∀ n∈l,1≤n)∧(Zmc l).1=(ZjD l:Int)∧ZjD l≤512):=by
 unfold Zmc
 split
 ·exact .inl rfl
 ·rename_i h
  split
  ·exact .inr (.inl rfl)
  ·refine .inr (.inr ⟨rfl,fun n hn=>?_,rfl,by omega⟩)
   simp only [List.any_eq_true,decide_eq_true_eq,not_exists,not_and,Int.not_lt] at h
   exact h n hn
theorem Zj7 {n:Nat} (h:n≤9223372036854775807):IntKind.wrap .u64 (n:Int)=(n:Int):=by
 simp only [IntKind.wrap,IntKind.bits,IntKind.signed]
 simp;omega
theorem Zaa.spec (g n:Int) (hp:Zaa.pre (g,n,())):Zaa.wp g n (fun r=>r=Zaa.fn (g,n,())):=by
 obtain ⟨h1,h2⟩:=hp
 simp only at h1 h2
 have e:IntKind.wrap .u64 n=n:=by
  have:=Zj7 (n:=n.toNat) (by omega)
  rwa [Int.toNat_of_nonneg (by omega)] at this
 simp only [Zaa.wp,Zaa.fn,e]
 by_cases hg:(512:Int) < g
 ·simp [hg]
 ·simp only [decide_eq_false hg,Bool.not_false,forall_const,true_and,Bool.false_or]
  by_cases hn:(512:Int) < n
  ·simp [hn]
  ·simp only [decide_eq_false hn,cond_false]
   refine ⟨?_,by simp⟩
   unfold ZS.fn
   simp only
   rw [if_neg (by omega)]
   split
   ·omega
   ·intro h0
    have:Nat.gcd g.toNat n.toNat=0:=by omega
    rw [Nat.gcd_eq_zero_iff] at this
    omega
def ZsJ (g n:Int):Int:=Zaa.fn (g,n,())
theorem ZqL {m : Nat} {g n : Int} (hm : 1 ≤ m) (hn : 1 ≤ n) (hn2 : n ≤ 9223372036854775807) (hg : (m ≤ 512 ∧ g = (m : Int)) ∨ (512 < m ∧ 512 < g ∧ g ≤ 262144)) :
 (Nat.lcm m n.natAbs≤512∧ZsJ g n=(Nat.lcm m n.natAbs:Int))∨(512 < Nat.lcm m n.natAbs∧512 < ZsJ g n∧ZsJ g n≤262144):=by
 have e:IntKind.wrap .u64 n=n:=by
  have:=Zj7 (n:=n.toNat) (by omega)
  rwa [Int.toNat_of_nonneg (by omega)] at this
 have hna:(n.natAbs:Int)=n:=by omega
 have hpos:1≤Nat.lcm m n.natAbs:=Nat.lcm_pos (by omega) (by omega)
 have hle1:m≤Nat.lcm m n.natAbs:=Nat.le_of_dvd hpos (Nat.dvd_lcm_left _ _)
 have hle2:n.natAbs≤Nat.lcm m n.natAbs:=Nat.le_of_dvd hpos (Nat.dvd_lcm_right _ _)
 unfold ZsJ Zaa.fn
 simp only [e]
 rcases hg with ⟨h1,rfl⟩ | ⟨h1,h2,h3⟩
 ·by_cases hb:(512:Int) < n
  ·rw [if_pos (by simp [hb])]
   exact .inr ⟨by omega,by omega,by omega⟩
  ·rw [if_neg (by simp;omega)]
   have hc:ZS.fn ((m:Int),n,())=(Nat.gcd m n.natAbs:Nat):=by
    unfold ZS.fn
    simp only
    rw [if_neg (by omega),if_neg (by omega)]
    congr 2
    omega
   have hgp:0 < Nat.gcd m n.natAbs:=Nat.gcd_pos_of_pos_left _ (by omega)
   have hdiv:Int.tdiv (m:Int) ((Nat.gcd m n.natAbs:Nat):Int)=((m / Nat.gcd m n.natAbs:Nat):Int):=by
    rw [Int.tdiv_eq_ediv_of_nonneg (by omega)];rfl
   have hlc:m / Nat.gcd m n.natAbs*n.natAbs=Nat.lcm m n.natAbs:=by
    rw [Nat.lcm,Nat.div_mul_right_comm (Nat.gcd_dvd_left _ _)]
   have hq:m / Nat.gcd m n.natAbs≤m:=Nat.div_le_self _ _
   have hl:Nat.lcm m n.natAbs≤262144:=by
    rw [← hlc]
    have:=Nat.mul_le_mul (show m / Nat.gcd m n.natAbs≤512 by omega) (show n.natAbs≤512 by omega)
    omega
   rw [hc,hdiv,Zj7 (n:=m / Nat.gcd m n.natAbs) (by omega),← hna,show ((m / Nat.gcd m (n.natAbs:Int).natAbs:Nat):Int)*((n.natAbs:Nat):Int)=((m / Nat.gcd m n.natAbs*n.natAbs:Nat):Int) from by rw [Int.natAbs_natCast];push_cast;rfl,Int.natAbs_natCast,hlc,Zj7 (n:=Nat.lcm m n.natAbs) (by omega)]
   by_cases hs:Nat.lcm m n.natAbs≤512
   ·exact .inl ⟨hs,rfl⟩
   ·exact .inr ⟨by omega,by omega,by omega⟩
 ·rw [if_pos (by simp;omega)]
  exact .inr ⟨by omega,by omega,by omega⟩
theorem ZpB {l : List Int} (h : ∀ n ∈ l, 1 ≤ n ∧ n ≤ 9223372036854775807) : ∀ {m : Nat} {g : Int}, 1 ≤ m → ((m ≤ 512 ∧ g = (m : Int)) ∨ (512 < m ∧ 512 < g ∧ g ≤ 262144)) →
 (Nat.lcm m (ZjD l)≤512∧l.foldl ZsJ g=(Nat.lcm m (ZjD l):Int))∨(512 < Nat.lcm m (ZjD l)∧512 < l.foldl ZsJ g∧l.foldl ZsJ g≤262144):=by
 induction l with
 | nil=>intro m g hm hg;simpa [ZjD] using hg
 | cons n l ih =>
   intro m g hm hg
   have hn:=h n (by simp)
   rw [List.foldl_cons,Zic,← Nat.lcm_assoc]
   exact ih (fun k hk=>h k (List.mem_cons_of_mem _ hk)) (Nat.lcm_pos (by omega) (by omega)) (ZqL hm hn.1 hn.2 hg)
theorem ZG.spec (l:List Int) (hl:l.length≤9223372036854775807) (hp:ZG.pre (l,())):ZG.wp l (fun r=>r=ZG.fn (l,())):=by
 have hb:Zcv l:=hp
 have hfn:ZG.fn (l,())=Zmc l:=rfl
 simp only [ZG.wp,hfn]
 have hany:(l.all fun n=>!decide (n < 1))=!(l.any fun n=>decide (n < 1)):=by simp [List.all_eq_not_any_not]
 refine Lp.all l 0 (fun n=>!decide (n < 1)) hl (fun i R hi hi' hf h1 h2=>?_) (fun R hall=>?_)
 ·simp only [decide_eq_true hi',Int.toNat_natCast,cond_true]
  refine ⟨⟨by omega,hi'⟩,?_⟩
  cases hd:decide (l.getD i 0 < 1) with
  | true =>
    simp only [cond_true]
    have:=h2 (by rw [hd];rfl)
    rw [hany] at this
    unfold Zmc
    rw [if_pos (by simpa using this)]
  | false=>exact ⟨hf,h1 (by rw [hd];rfl)⟩
 ·simp only [Int.lt_irrefl,decide_false,cond_false]
  rw [hany] at hall
  have hall':(l.any fun n=>decide (n < 1))=false:=by simpa using hall
  have hpos:∀ n∈l,1≤n:=fun n hn=>by
   rw [List.any_eq_false] at hall'
   have:=hall' n hn
   simp at this;omega
  have hfold:Zr.fn (l,((1:Int),((fun (a4:Int×Int)=>Zaa.pre (a4.1,a4.2,()),fun (a4:Int×Int)=>Zaa.fn (a4.1,(a4.2,()))),())))=l.foldl ZsJ 1:=rfl
  refine ⟨fun g n hn=>⟨hpos n hn,(hb n hn).2⟩,?_⟩
  rw [hfold]
  have key:=ZpB (fun n hn=>⟨hpos n hn,(hb n hn).2⟩) (m:=1) (g:=1) (by omega) (.inl ⟨by omega,rfl⟩)
  rw [Nat.lcm_one_left] at key
  have hF:Zmc l=if 512 < ZjD l then ((0:Int),(3:Int)) else (((ZjD l:Nat):Int),0):=by
   unfold Zmc;rw [if_neg (by rw [hall'];simp)]
  rw [hF]
  rcases key with ⟨h1,h2⟩ | ⟨h1,h2,h3⟩
  ·rw [h2,decide_eq_false (by omega),if_neg (by omega)]
   exact ⟨⟨by omega,by omega⟩,rfl⟩
  ·rw [decide_eq_true h2,if_pos h1]
   rfl
set_option maxRecDepth 4000
def ZN.wp (x0:List Zc) (x1:Int) (Q:Int→Prop):Prop:=Lp (σ:=Int×Int×Int) (fun y3 R3=>let v0:=List.getD x0 (Int.toNat y3.1) Zb;cond (decide (y3.1 < ((List.length x0:Nat):Int))) (((0:Int)≤y3.1∧y3.1 < ((List.length x0:Nat):Int))∧cond (v0.1 != (1:Int)) (Zw IntKind.i64 (y3.1+(1:Int))∧R3 ((y3.1+(1:Int)),y3.2)) (Lp (σ:=Int×Int×Int) (fun y5 R5=>let v1:=List.getD v0.2.2.1 (Int.toNat y5.1) (0:Int);cond (decide (y5.1 < ((List.length v0.2.2.1:Nat):Int))) (((0:Int)≤y5.1∧y5.1 < ((List.length v0.2.2.1:Nat):Int))∧cond (v1 != (0:Int)) (Z7.pre (v1,())∧cond (Z7.fn (v1,()) == (1:Int)) (Zw IntKind.i64 (y5.1+(1:Int))∧R5 ((y5.1+(1:Int)),(Max.max y5.2.1 y5.1,Max.max y5.2.2 y5.1))) (Zw IntKind.i64 (y5.1+(1:Int))∧R5 ((y5.1+(1:Int)),(y5.2.1,Max.max y5.2.2 y5.1)))) (Z7.pre (v1,())∧cond (Z7.fn (v1,()) == (1:Int)) (Zw IntKind.i64 (y5.1+(1:Int))∧R5 ((y5.1+(1:Int)),(Max.max y5.2.1 y5.1,y5.2.2))) (Zw IntKind.i64 (y5.1+(1:Int))∧R5 ((y5.1+(1:Int)),y5.2)))) (Zw IntKind.i64 (y3.1+(1:Int))∧R3 ((y3.1+(1:Int)),y5.2))) ((0:Int),y3.2))) (cond (decide ((0:Int)≤y3.2.1)) (Q y3.2.1) (cond (decide ((0:Int)≤y3.2.2)) (Q y3.2.2) (Lp (σ:=Int×Int×Int) (fun y5 R5=>cond (decide (y5.1 < x1)) (Lp (σ:=Int×Int×Int) (fun y7 R7=>let v2:=List.getD x0 (Int.toNat y7.1) Zb;let v3:=List.getD v2.2.2.1 (Int.toNat y5.1) (0:Int);cond (decide (y7.1 < ((List.length x0:Nat):Int))) (((0:Int)≤y7.1∧y7.1 < ((List.length x0:Nat):Int))∧(((!(v2.1 != (0:Int)))=true→((!(v2.1 != (0:Int)))=true∧True))∧(((!(v2.1 != (0:Int)))=true→((!(v2.1 != (0:Int)))=true∧True))∧(((!(v2.1 != (0:Int)))=true→((!(v2.1 != (0:Int)))=true∧((!(v2.1 != (0:Int)))=true∧((0:Int)≤y5.1∧y5.1 < ((List.length v2.2.2.1:Nat):Int)))))∧(((!(v2.1 != (0:Int)))=true→((!(v2.1 != (0:Int)))=true∧True))∧(((!(v2.1 != (0:Int)))=true→((!(v2.1 != (0:Int)))=true∧True))∧(((v2.1 != (0:Int))=false→(!(v2.1 != (0:Int)))=true)∧cond ((v2.1 != (0:Int))||(v3 == (0:Int))) (Zw IntKind.i64 (y7.1+(1:Int))∧R7 ((y7.1+(1:Int)),y7.2)) (((0:Int)≤y5.1∧y5.1 < ((List.length v2.2.2.1:Nat):Int))∧cond (decide ((0:Int) < v3)) (Zw IntKind.i64 (y7.2.1+(1:Int))∧(Zw IntKind.i64 (y7.1+(1:Int))∧R7 ((y7.1+(1:Int)),((y7.2.1+(1:Int)),y7.2.2)))) (Zw IntKind.i64 (y7.2.2+(1:Int))∧(Zw IntKind.i64 (y7.1+(1:Int))∧R7 ((y7.1+(1:Int)),(y7.2.1,(y7.2.2+(1:Int)))))))))))))) (((!(decide (y5.2.1 < (0:Int))))=true→((!(decide (y5.2.1 < (0:Int))))=true∧((!(decide (y5.2.1 < (0:Int))))=true∧Zw IntKind.i64 (y7.2.1*y7.2.2))))∧(((!(decide (y5.2.1 < (0:Int))))=true→((!(decide (y5.2.1 < (0:Int))))=true∧((!(decide (y5.2.1 < (0:Int))))=true∧True)))∧((decide (y5.2.1 < (0:Int))=false→(!(decide (y5.2.1 < (0:Int))))=true)∧cond (decide (y5.2.1 < (0:Int))||decide ((y7.2.1*y7.2.2)≤y5.2.1)) (Zw IntKind.i64 (y7.2.1*y7.2.2)∧(Zw IntKind.i64 (y5.1+(1:Int))∧R5 ((y5.1+(1:Int)),((y7.2.1*y7.2.2),y5.1)))) (Zw IntKind.i64 (y5.1+(1:Int))∧R5 ((y5.1+(1:Int)),y5.2)))))) ((0:Int),((0:Int),(0:Int)))) (Q y5.2.2)) ((0:Int),((-(1:Int)),(0:Int))))))) ((0:Int),((-(1:Int)),(-(1:Int))))
theorem Zc9 {n j:Nat} {f:Nat→Int} (h:j < n):((List.range n).map f).getD j 0=f j:=by
 rw [List.getD_eq_getElem?_getD,List.getElem?_map,List.getElem?_range h];rfl
theorem ZfU {n j:Nat} {f g:Nat→Int} (h:∀ i,i≠j→f i=g i):((List.range n).map f).set j (g j)=(List.range n).map g:=by
 apply List.ext_getElem (by simp)
 intro i h1 h2
 simp only [List.getElem_set,List.getElem_map,List.getElem_range]
 split
 ·rename_i e;rw [e]
 ·rename_i e;exact h i (fun e'=>e e'.symm)
theorem ZcB {n:Nat} {f g:Nat→Int} (h:∀ i,i < n→f i=g i):(List.range n).map f=(List.range n).map g:=by
 apply List.map_congr_left
 intro i hi
 exact h i (List.mem_range.1 hi)
theorem Zeh {α:Type} (d:α) (l:List α):(Zbc d l).length=l.length:=by simp [Zbc]
theorem Zga {α:Type} (d:α) (l:List α) {i:Nat} (h:i < l.length):(Zbc d l).take (i+1)=(Zbc d l).take i++[(i,l.getD i d)]:=by
 have h':i < (Zbc d l).length:=by rw [Zeh];exact h
 rw [List.take_add_one,List.getElem?_eq_getElem h']
 simp [Zbc]
theorem Zb6 {α:Type} {l:List α} {d:α} {i:Nat} (h:i < l.length):l.take (i+1)=l.take i++[l.getD i d]:=by
 rw [List.take_add_one,List.getElem?_eq_getElem h,ZT h];rfl
def Zca (st:Int×Int) (ia:Nat×Int):Int×Int:=if ia.2=0 then st else (if ia.2=1∨ia.2=-1 then max st.1 (ia.1:Int) else st.1,max st.2 (ia.1:Int))
theorem Zpi (l:List Int) (st:Int×Int):Zt9 l st=(Zbc 0 l).foldl Zca st:=rfl
def ZkV (st:Int×Int) (c:Zc):Int×Int:=if c.1=1 then Zt9 c.2.2.1 st else st
theorem ZkE (p:List Zc):Zf2 p=p.foldl ZkV (-1,-1):=rfl
theorem Zle (p:List Zc) (c:Zc) (v:Nat):ZiB (p++[c]) v=ZiB p v+if c.1=0∧0 < Zi v c then 1 else 0:=by
 unfold ZiB
 rw [List.filter_append,List.length_append]
 congr 1
 by_cases h:c.1=0∧0 < Zi v c
 ·simp [h]
 ·rw [if_neg h];simp [h]
theorem Znp (p:List Zc) (c:Zc) (v:Nat):upN (p++[c]) v=upN p v+if c.1=0∧Zi v c < 0 then 1 else 0:=by
 unfold upN
 rw [List.filter_append,List.length_append]
 congr 1
 by_cases h:c.1=0∧Zi v c < 0
 ·simp [h]
 ·rw [if_neg h];simp [h]
theorem Zkl (p:List Zc) (v:Nat):ZiB p v≤p.length:=List.length_filter_le _ _
theorem ZnL (p:List Zc) (v:Nat):upN p v≤p.length:=List.length_filter_le _ _
theorem ZlH (p:List Zc) (i v:Nat):ZiB (p.take i) v≤p.length:=Nat.le_trans (Zkl _ _) (by rw [List.length_take];omega)
theorem Zn8 (p:List Zc) (i v:Nat):upN (p.take i) v≤p.length:=Nat.le_trans (ZnL _ _) (by rw [List.length_take];omega)
def ZiH (p:List Zc) (b v:Nat):Nat:=if ZeZ p v≤ZeZ p b then v else b
theorem ZrJ (p:List Zc) (n:Nat):Zc5 p n=(List.range n).foldl (ZiH p) 0:=rfl
theorem Zeo (p:List Zc) (n:Nat):Zc5 p (n+1)=ZiH p (Zc5 p n) n:=by
 rw [ZrJ,List.range_succ,List.foldl_append];rfl
theorem Zkm (p:List Zc):∀ n:Nat,0 < n→Zc5 p n < n
 | 0,h=>absurd h (by omega)
 | 1,_=>by
   rw [Zeo]
   have:Zc5 p 0=0:=rfl
   rw [this];unfold ZiH;split<;>omega
 | n+2,_=>by
   rw [Zeo]
   have:=Zkm p (n+1) (by omega)
   unfold ZiH;split<;>omega
theorem Zp2 {a b:Nat} (ha:a≤400) (hb:b≤400):Zw .i64 ((a:Int)*(b:Int)):=by
 have h:=Nat.mul_le_mul ha hb
 have e:(a:Int)*(b:Int)=((a*b:Nat):Int):=by push_cast;rfl
 rw [e]
 exact ⟨by omega,by omega⟩
theorem Zt5 {N:Nat} {st:Int×Int} {ia:Nat×Int} (h:-1≤st.1∧st.1 < N∧-1≤st.2∧st.2 < N) (hi:ia.1 < N):-1≤(Zca st ia).1∧(Zca st ia).1 < N∧-1≤(Zca st ia).2∧(Zca st ia).2 < N:=by
 unfold Zca
 split
 ·exact h
 ·refine ⟨?_,?_,?_,?_⟩<;>simp only []<;>(try split)<;>omega
theorem ZuN {N:Nat} {l:List Int} {st:Int×Int} (h:-1≤st.1∧st.1 < N∧-1≤st.2∧st.2 < N) (hl:l.length≤N):-1≤(Zt9 l st).1∧(Zt9 l st).1 < N∧-1≤(Zt9 l st).2∧(Zt9 l st).2 < N:=by
 rw [Zpi]
 have key:∀ (m:List (Nat×Int)) (st:Int×Int),(∀ x∈m,x.1 < N)→(-1≤st.1∧st.1 < N∧-1≤st.2∧st.2 < N)→-1≤(m.foldl Zca st).1∧(m.foldl Zca st).1 < N∧-1≤(m.foldl Zca st).2∧(m.foldl Zca st).2 < N:=by
  intro m
  induction m with
  | nil=>exact fun st _ h=>h
  | cons x m ih=>exact fun st hm h=>ih _ (fun y hy=>hm y (List.mem_cons_of_mem _ hy)) (Zt5 h (hm x (by simp)))
 refine key _ st (fun x hx=>?_) h
 simp only [Zbc,List.mem_map,List.mem_range] at hx
 obtain ⟨i,hi,rfl⟩:=hx
 simp only;omega
theorem Zto {p:List Zc} {N:Nat} (h:∀ c∈p,c.2.2.1.length≤N):-1≤(Zf2 p).1∧(Zf2 p).1 < N∧-1≤(Zf2 p).2∧(Zf2 p).2 < N:=by
 rw [ZkE]
 have key:∀ (m:List Zc) (st:Int×Int),(∀ c∈m,c.2.2.1.length≤N)→(-1≤st.1∧st.1 < N∧-1≤st.2∧st.2 < N)→-1≤(m.foldl ZkV st).1∧(m.foldl ZkV st).1 < N∧-1≤(m.foldl ZkV st).2∧(m.foldl ZkV st).2 < N:=by
  intro m
  induction m with
  | nil=>exact fun st _ h=>h
  | cons x m ih =>
    refine fun st hm h=>ih _ (fun y hy=>hm y (List.mem_cons_of_mem _ hy)) ?_
    unfold ZkV
    split
    ·exact ZuN h (hm x (by simp))
    ·exact h
 exact key p _ h ⟨by omega,by simp only;omega,by omega,by simp only;omega⟩
theorem Zpd {p:List Zc} {n:Int} (h:pieceN p n) (h1:1≤n):0≤Zbe p n∧Zbe p n < n:=by
 obtain ⟨_,hc,h0,h12⟩:=h
 have hb:=Zto (p:=p) (N:=n.toNat) fun c hc'=>by have:=(hc c hc').2;omega
 have hbest:=Zkm p n.toNat (by omega)
 unfold Zbe
 split
 ·omega
 ·split
  ·omega
  ·omega
theorem ZO.spec (p:List Zc) (n:Int) (hp:ZO.pre (p,n,())):ZO.wp p n (fun r=>r=ZO.fn (p,n,())):=by
 obtain ⟨h400,hc,h0,h12⟩:=hp
 simp only at h400 hc h0 h12
 have hfn:ZO.fn (p,n,())=Zbe p n:=rfl
 simp only [ZO.wp,hfn]
 obtain ⟨N,rfl⟩:∃ N:Nat,n=(N:Int):=⟨n.toNat,by omega⟩
 simp only [Int.toNat_natCast]
 refine ⟨⟨h0,Int.le_refl _,by omega,by omega⟩,⟨h0,Int.le_refl _,by omega,by omega⟩,?_⟩
 have hrep:List.replicate N (0:Int)=(List.range N).map fun v=>(ZiB (p.take 0) v:Int):=by
  apply List.ext_getElem (by simp)
  intro i h1 h2
  simp [ZiB]
 have hrep':List.replicate N (0:Int)=(List.range N).map fun v=>(upN (p.take 0) v:Int):=by
  apply List.ext_getElem (by simp)
  intro i h1 h2
  simp [upN]
 refine Lp.iter p.length (fun i z=>z=((i:Int),((p.take i).foldl ZkV (-1,-1)).1,((p.take i).foldl ZkV (-1,-1)).2,((List.range N).map fun v=>(ZiB (p.take i) v:Int)),((List.range N).map fun v=>(upN (p.take i) v:Int)))) (by rw [← hrep,← hrep'];rfl) ?_
 rintro i z hle rfl R hR
 by_cases e:i < p.length
 ·have e':(i:Int) < (p.length:Int):=by omega
  simp only [decide_eq_true e',Int.toNat_natCast,cond_true]
  refine ⟨⟨by omega,e'⟩,?_⟩
  have hmem:=Zl (d:=Zb) e
  obtain ⟨c,hcc⟩:∃ c,p.getD i Zb=c:=⟨_,rfl⟩
  simp only [hcc] at hmem ⊢
  obtain ⟨hcv,hcl⟩:=hc c hmem
  have hcN:c.2.2.1.length=N:=by omega
  obtain ⟨st,hst⟩:∃ st,(p.take i).foldl ZkV (-1,-1)=st:=⟨_,rfl⟩
  simp only [hst]
  have hs1:(p.take (i+1)).foldl ZkV (-1,-1)=ZkV st c:=by rw [Zb6 (d:=Zb) e,List.foldl_append,hst,hcc];rfl
  have hlo:∀ v,ZiB (p.take (i+1)) v=ZiB (p.take i) v+if c.1=0∧0 < Zi v c then 1 else 0:=fun v=>by rw [Zb6 (d:=Zb) e,Zle,hcc]
  have hup:∀ v,upN (p.take (i+1)) v=upN (p.take i) v+if c.1=0∧Zi v c < 0 then 1 else 0:=fun v=>by rw [Zb6 (d:=Zb) e,Znp,hcc]
  refine Lp.iter c.2.2.1.length (fun j z=>z=((j:Int),(if c.1=1 then ((Zbc 0 c.2.2.1).take j).foldl Zca st else st).1,(if c.1=1 then ((Zbc 0 c.2.2.1).take j).foldl Zca st else st).2,
   ((List.range N).map fun v=>(ZiB (p.take i) v:Int)+if v < j∧c.1=0∧0 < Zi v c then 1 else 0),((List.range N).map fun v=>(upN (p.take i) v:Int)+if v < j∧c.1=0∧Zi v c < 0 then 1 else 0))) (by simp) ?_
  rintro j z hj rfl R1 hR1
  by_cases ej:j < c.2.2.1.length
  ·have ej':(j:Int) < (c.2.2.1.length:Int):=by omega
   have hjN:j < N:=by omega
   have hcoef:c.2.2.1.getD j 0=Zi j c:=rfl
   have hst1:((Zbc 0 c.2.2.1).take (j+1)).foldl Zca st=Zca (((Zbc 0 c.2.2.1).take j).foldl Zca st) (j,Zi j c):=by
    rw [Zga 0 _ ej,List.foldl_append];rfl
   have hR1':=hR1 ej _ rfl
   simp only [hst1] at hR1'
   simp only [decide_eq_true ej',Int.toNat_natCast,cond_true,hcoef]
   refine ⟨⟨by omega,ej'⟩,?_⟩
   have hfj:Zw IntKind.i64 ((j:Int)+1):=⟨by omega,by omega⟩
   have hsame:∀ (f:Nat→Int) (g:Nat→Prop) [DecidablePred g],(∀ v,v=j→¬ g v)→((List.range N).map fun v=>f v+if v < j+1∧g v then 1 else 0)=((List.range N).map fun v=>f v+if v < j∧g v then (1:Int) else 0):=fun f g _ hg=>by
    apply ZcB
    intro v hv
    congr 1
    by_cases hvj:v=j
    ·have:=hg v hvj
     rw [if_neg (fun h=>this h.2),if_neg (fun h=>this h.2)]
    ·by_cases hg':g v
     ·by_cases hlt:v < j
      ·rw [if_pos ⟨by omega,hg'⟩,if_pos ⟨hlt,hg'⟩]
      ·rw [if_neg (by omega),if_neg (by omega)]
     ·rw [if_neg (fun h=>hg' h.2),if_neg (fun h=>hg' h.2)]
   by_cases ha:Zi j c=0
   ·rw [ha]
    refine ⟨hfj,?_⟩
    have hx:Zca (((Zbc 0 c.2.2.1).take j).foldl Zca st) (j,Zi j c)=((Zbc 0 c.2.2.1).take j).foldl Zca st:=by unfold Zca;rw [if_pos ha]
    rw [hx,hsame _ (fun v=>c.1=0∧0 < Zi v c) (fun v hv h=>by subst hv;omega),hsame _ (fun v=>c.1=0∧Zi v c < 0) (fun v hv h=>by subst hv;omega)] at hR1'
    exact hR1'
   ·have ha':(Zi j c == 0)=false:=by simpa using ha
    rw [ha',cond_false]
    by_cases h1:c.1=1
    ·have h1':(c.1 == 1)=true:=by simpa using h1
     rw [h1',cond_true]
     rw [hsame _ (fun v=>c.1=0∧0 < Zi v c) (fun v hv h=>by omega),hsame _ (fun v=>c.1=0∧Zi v c < 0) (fun v hv h=>by omega)] at hR1'
     simp only [if_pos h1] at hR1' ⊢
     unfold Zca at hR1'
     rw [if_neg ha] at hR1'
     refine ⟨fun h=>⟨h,trivial⟩,fun h=>by rw [h];rfl,?_⟩
     by_cases hu:Zi j c=1∨Zi j c=-1
     ·rw [show ((Zi j c == 1)||(Zi j c == (-(1:Int))))=true by simpa using hu,cond_true]
      simp only [if_pos hu] at hR1'
      exact ⟨hfj,hR1'⟩
     ·rw [show ((Zi j c == 1)||(Zi j c == (-(1:Int))))=false by simpa using hu,cond_false]
      simp only [if_neg hu] at hR1'
      exact ⟨hfj,hR1'⟩
    ·have h1':(c.1 == 1)=false:=by simpa using h1
     rw [h1',cond_false]
     simp only [if_neg h1] at hR1' ⊢
     refine ⟨fun h=>⟨h,trivial⟩,fun h=>h,?_⟩
     simp only [List.length_map,List.length_range,Zc9 hjN]
     have hlt0:(if j < j∧c.1=0∧0 < Zi j c then (1:Int) else 0)=0:=if_neg (by omega)
     have hlt1:(if j < j∧c.1=0∧Zi j c < 0 then (1:Int) else 0)=0:=if_neg (by omega)
     have hlb:=ZlH p i j
     have hub:=Zn8 p i j
     by_cases h0':c.1=0
     ·have h0b:(c.1 == 0)=true:=by simpa using h0'
      by_cases hpos:0 < Zi j c
      ·rw [h0b,decide_eq_true hpos,Bool.and_self,cond_true]
       refine ⟨⟨by omega,by omega⟩,hjN,⟨by omega,by omega⟩,⟨by omega,by omega⟩,hjN,hfj,?_⟩
       rw [hsame _ (fun v=>c.1=0∧Zi v c < 0) (fun v hv h=>by subst hv;omega)] at hR1'
       rw [hlt0,Int.add_zero]
       have hset:=ZfU (n:=N) (j:=j) (f:=fun v=>(ZiB (p.take i) v:Int)+if v < j∧c.1=0∧0 < Zi v c then 1 else 0) (g:=fun v=>(ZiB (p.take i) v:Int)+if v < j+1∧c.1=0∧0 < Zi v c then 1 else 0) (fun v hv=>by
        congr 1
        by_cases hlt:v < j
        ·by_cases hx:c.1=0∧0 < Zi v c
         ·rw [if_pos ⟨hlt,hx⟩,if_pos ⟨by omega,hx⟩]
         ·rw [if_neg (fun h=>hx h.2),if_neg (fun h=>hx h.2)]
        ·rw [if_neg (by omega),if_neg (by omega)])
       simp only [if_pos (show j < j+1∧c.1=0∧0 < Zi j c from ⟨by omega,h0',hpos⟩)] at hset
       rw [hset]
       exact hR1'
      ·rw [h0b,decide_eq_false hpos,Bool.and_false,cond_false,cond_true]
       refine ⟨⟨by omega,by omega⟩,hjN,⟨by omega,by omega⟩,⟨by omega,by omega⟩,hjN,hfj,?_⟩
       rw [hsame _ (fun v=>c.1=0∧0 < Zi v c) (fun v hv h=>by subst hv;omega)] at hR1'
       rw [hlt1,Int.add_zero]
       have hneg:Zi j c < 0:=by omega
       have hset:=ZfU (n:=N) (j:=j) (f:=fun v=>(upN (p.take i) v:Int)+if v < j∧c.1=0∧Zi v c < 0 then 1 else 0) (g:=fun v=>(upN (p.take i) v:Int)+if v < j+1∧c.1=0∧Zi v c < 0 then 1 else 0) (fun v hv=>by
        congr 1
        by_cases hlt:v < j
        ·by_cases hx:c.1=0∧Zi v c < 0
         ·rw [if_pos ⟨hlt,hx⟩,if_pos ⟨by omega,hx⟩]
         ·rw [if_neg (fun h=>hx h.2),if_neg (fun h=>hx h.2)]
        ·rw [if_neg (by omega),if_neg (by omega)])
       simp only [if_pos (show j < j+1∧c.1=0∧Zi j c < 0 from ⟨by omega,h0',hneg⟩)] at hset
       rw [hset]
       exact hR1'
     ·have h0b:(c.1 == 0)=false:=by simpa using h0'
      rw [h0b,Bool.false_and,cond_false,cond_false]
      rw [hsame _ (fun v=>c.1=0∧0 < Zi v c) (fun v hv h=>h0' h.1),hsame _ (fun v=>c.1=0∧Zi v c < 0) (fun v hv h=>h0' h.1)] at hR1'
      exact ⟨hfj,hR1'⟩
  ·have:j=c.2.2.1.length:=by omega
   subst this
   simp only [Int.lt_irrefl,decide_false,cond_false]
   refine ⟨⟨by omega,by omega⟩,hR e _ ?_⟩
   rw [hs1]
   have ht:(Zbc 0 c.2.2.1).take c.2.2.1.length=Zbc 0 c.2.2.1:=by rw [← Zeh 0,List.take_length]
   have hE:(if c.1=1 then ((Zbc 0 c.2.2.1).take c.2.2.1.length).foldl Zca st else st)=ZkV st c:=by rw [ht];rfl
   rw [hE]
   congr 4
   ·apply ZcB
    intro v hv
    rw [hlo v]
    by_cases hx:c.1=0∧0 < Zi v c
    ·rw [if_pos ⟨by omega,hx⟩,if_pos hx];push_cast;rfl
    ·rw [if_neg (fun h=>hx h.2),if_neg hx];push_cast;rfl
   ·apply ZcB
    intro v hv
    rw [hup v]
    by_cases hx:c.1=0∧Zi v c < 0
    ·rw [if_pos ⟨by omega,hx⟩,if_pos hx];push_cast;rfl
    ·rw [if_neg (fun h=>hx h.2),if_neg hx];push_cast;rfl
 ·have:i=p.length:=by omega
  subst this
  simp only [Int.lt_irrefl,decide_false,cond_false,List.take_length]
  rw [← ZkE]
  unfold Zbe
  by_cases hu:0≤(Zf2 p).1
  ·rw [decide_eq_true hu,cond_true,if_pos hu]
  ·rw [decide_eq_false hu,cond_false,if_neg hu]
   by_cases hu2:0≤(Zf2 p).2
   ·rw [decide_eq_true hu2,cond_true,if_pos hu2]
   ·rw [decide_eq_false hu2,cond_false,if_neg hu2]
    simp only [Int.toNat_natCast,List.length_map,List.length_range]
    refine Lp.iter N (fun v z=>z=((v:Int),(Zc5 p v:Int))) rfl ?_
    rintro v z hv rfl R1 hR1
    by_cases ev:v < N
    ·have hb:Zc5 p v < N:=by
      by_cases h:v=0
      ·subst h;have:Zc5 p 0=0:=rfl;omega
      ·have:=Zkm p v (by omega);omega
     simp only [decide_eq_true (show (v:Int) < (N:Int) by omega),Int.toNat_natCast,cond_true,Zc9 ev,Zc9 hb]
     have a1:=Zkl p v
     have a2:=ZnL p v
     have a3:=Zkl p (Zc5 p v)
     have a4:=ZnL p (Zc5 p v)
     have hR1':=hR1 ev _ rfl
     rw [Zeo] at hR1'
     refine ⟨⟨by omega,by omega⟩,ev,⟨by omega,by omega⟩,ev,Zp2 (by omega) (by omega),⟨by omega,by omega⟩,hb,⟨by omega,by omega⟩,hb,Zp2 (by omega) (by omega),?_⟩
     have hcst:((ZiB p v:Int)*(upN p v:Int)≤(ZiB p (Zc5 p v):Int)*(upN p (Zc5 p v):Int))↔ZeZ p v≤ZeZ p (Zc5 p v):=by
      unfold ZeZ
      rw [← Int.ofNat_le];push_cast;exact Iff.rfl
     by_cases hle:ZeZ p v≤ZeZ p (Zc5 p v)
     ·rw [decide_eq_true (hcst.2 hle),cond_true]
      unfold ZiH at hR1'
      rw [if_pos hle] at hR1'
      exact ⟨⟨by omega,by omega⟩,hR1'⟩
     ·rw [decide_eq_false (fun h=>hle (hcst.1 h)),cond_false]
      unfold ZiH at hR1'
      rw [if_neg hle] at hR1'
      exact ⟨⟨by omega,by omega⟩,hR1'⟩
    ·have:v=N:=by omega
     subst this
     simp only [Int.lt_irrefl,decide_false,cond_false]
theorem ZdO {c:Zc} (h:Zf c=true) (v:Nat):-1048576≤Zi v c∧Zi v c≤1048576 :=
 Zqj (P:=fun n=>-1048576≤n∧n≤1048576) (Zaw.b (Zf.lin h)).2.1 (by omega)
theorem ZnA {n:Int}:Zbo n=1↔n=1∨n=-1:=by unfold Zbo;omega
theorem ZN.spec (p:List Zc) (n:Int) (hp:ZN.pre (p,n,())):ZN.wp p n (fun r=>r=ZN.fn (p,n,())):=by
 obtain ⟨h400,hc,h0,h12⟩:=hp
 simp only at h400 hc h0 h12
 have hfn:ZN.fn (p,n,())=Zbe p n:=rfl
 simp only [ZN.wp,hfn,Z7.fn]
 obtain ⟨N,rfl⟩:∃ N:Nat,n=(N:Int):=⟨n.toNat,by omega⟩
 refine Lp.iter p.length (fun i z=>z=((i:Int),((p.take i).foldl ZkV (-1,-1)))) rfl ?_
 rintro i z hle rfl R hR
 by_cases e:i < p.length
 ·have e':(i:Int) < (p.length:Int):=by omega
  simp only [decide_eq_true e',Int.toNat_natCast,cond_true]
  refine ⟨⟨by omega,e'⟩,?_⟩
  have hmem:=Zl (d:=Zb) e
  obtain ⟨c,hcc⟩:∃ c,p.getD i Zb=c:=⟨_,rfl⟩
  simp only [hcc] at hmem ⊢
  obtain ⟨hcv,hcl⟩:=hc c hmem
  have hcN:c.2.2.1.length=N:=by omega
  have hs1:(p.take (i+1)).foldl ZkV (-1,-1)=ZkV ((p.take i).foldl ZkV (-1,-1)) c:=by rw [Zb6 (d:=Zb) e,List.foldl_append,hcc];rfl
  have hR':=hR e _ rfl
  rw [hs1] at hR'
  obtain ⟨st,hst⟩:∃ st,(p.take i).foldl ZkV (-1,-1)=st:=⟨_,rfl⟩
  simp only [hst] at hR' ⊢
  unfold ZkV at hR'
  by_cases h1:c.1=1
  ·have h1b:(c.1 != 1)=false:=by simpa using h1
   rw [h1b,cond_false]
   rw [if_pos h1] at hR'
   refine Lp.iter c.2.2.1.length (fun j z=>z=((j:Int),((Zbc 0 c.2.2.1).take j).foldl Zca st)) rfl ?_
   rintro j z hj rfl R1 hR1
   by_cases ej:j < c.2.2.1.length
   ·have ej':(j:Int) < (c.2.2.1.length:Int):=by omega
    have hst1:((Zbc 0 c.2.2.1).take (j+1)).foldl Zca st=Zca (((Zbc 0 c.2.2.1).take j).foldl Zca st) (j,Zi j c):=by
     rw [Zga 0 _ ej,List.foldl_append];rfl
    have hR1':=hR1 ej _ rfl
    rw [hst1] at hR1'
    have hcoef:c.2.2.1.getD j 0=Zi j c:=rfl
    simp only [decide_eq_true ej',Int.toNat_natCast,cond_true,hcoef]
    refine ⟨⟨by omega,ej'⟩,?_⟩
    have hfj:Zw IntKind.i64 ((j:Int)+1):=⟨by omega,by omega⟩
    have hcb:=ZdO hcv j
    have hsz:Z7.pre (Zi j c,()):=⟨by show -2305843009213693952≤Zi j c;omega,by show Zi j c≤2305843009213693952;omega⟩
    obtain ⟨s2,hs2⟩:∃ s2,((Zbc 0 c.2.2.1).take j).foldl Zca st=s2:=⟨_,rfl⟩
    simp only [hs2] at hR1' ⊢
    unfold Zca at hR1'
    by_cases ha:Zi j c=0
    ·rw [if_pos ha] at hR1'
     rw [ha] at hsz ⊢
     exact ⟨hsz,hfj,hR1'⟩
    ·rw [if_neg ha] at hR1'
     rw [show (Zi j c != 0)=true by simpa using ha,cond_true]
     refine ⟨hsz,?_⟩
     by_cases hu:Zi j c=1∨Zi j c=-1
     ·rw [show (Zbo (Zi j c) == 1)=true by simpa using ZnA.2 hu,cond_true]
      simp only [if_pos hu] at hR1'
      exact ⟨hfj,hR1'⟩
     ·rw [show (Zbo (Zi j c) == 1)=false by simpa using fun h=>hu (ZnA.1 h),cond_false]
      simp only [if_neg hu] at hR1'
      exact ⟨hfj,hR1'⟩
   ·have:j=c.2.2.1.length:=by omega
    subst this
    simp only [Int.lt_irrefl,decide_false,cond_false]
    have ht:(Zbc 0 c.2.2.1).take c.2.2.1.length=Zbc 0 c.2.2.1:=by rw [← Zeh 0,List.take_length]
    rw [ht,← Zpi]
    exact ⟨⟨by omega,by omega⟩,hR'⟩
  ·have h1b:(c.1 != 1)=true:=by simpa using h1
   rw [h1b,cond_true]
   rw [if_neg h1] at hR'
   exact ⟨⟨by omega,by omega⟩,hR'⟩
 ·have:i=p.length:=by omega
  subst this
  simp only [Int.lt_irrefl,decide_false,cond_false,List.take_length]
  rw [← ZkE]
  unfold Zbe
  by_cases hu:0≤(Zf2 p).1
  ·rw [decide_eq_true hu,cond_true,if_pos hu]
  ·rw [decide_eq_false hu,cond_false,if_neg hu]
   by_cases hu2:0≤(Zf2 p).2
   ·rw [decide_eq_true hu2,cond_true,if_pos hu2]
   ·rw [decide_eq_false hu2,cond_false,if_neg hu2]
    simp only [Int.toNat_natCast]
    refine Lp.iter N (fun v z=>z=((v:Int),(if v=0 then (-1:Int) else (ZeZ p (Zc5 p v):Int)),(Zc5 p v:Int))) rfl ?_
    rintro v z hv rfl R1 hR1
    by_cases ev:v < N
    ·simp only [decide_eq_true (show (v:Int) < (N:Int) by omega),cond_true]
     refine Lp.iter p.length (fun i z=>z=((i:Int),(ZiB (p.take i) v:Int),(upN (p.take i) v:Int))) (by simp [ZiB,upN]) ?_
     rintro i z hi rfl R2 hR2
     by_cases e:i < p.length
     ·have e':(i:Int) < (p.length:Int):=by omega
      simp only [decide_eq_true e',Int.toNat_natCast,cond_true]
      refine ⟨⟨by omega,e'⟩,?_⟩
      have hmem:=Zl (d:=Zb) e
      obtain ⟨c,hcc⟩:∃ c,p.getD i Zb=c:=⟨_,rfl⟩
      simp only [hcc] at hmem ⊢
      obtain ⟨hcv,hcl⟩:=hc c hmem
      have hlo:ZiB (p.take (i+1)) v=ZiB (p.take i) v+if c.1=0∧0 < Zi v c then 1 else 0:=by rw [Zb6 (d:=Zb) e,Zle,hcc]
      have hup:upN (p.take (i+1)) v=upN (p.take i) v+if c.1=0∧Zi v c < 0 then 1 else 0:=by rw [Zb6 (d:=Zb) e,Znp,hcc]
      have hcoef:c.2.2.1.getD v 0=Zi v c:=rfl
      have hR2':=hR2 e _ rfl
      rw [hlo,hup] at hR2'
      have hlb:=ZlH p i v
      have hub:=Zn8 p i v
      have hlen:(v:Int) < (c.2.2.1.length:Int):=by omega
      have hfi:Zw IntKind.i64 ((i:Int)+1):=⟨by omega,by omega⟩
      simp only [hcoef]
      refine ⟨fun h=>⟨h,trivial⟩,fun h=>⟨h,trivial⟩,fun h=>⟨h,h,by omega,hlen⟩,fun h=>⟨h,trivial⟩,fun h=>⟨h,trivial⟩,fun h=>by rw [h];rfl,?_⟩
      by_cases h0':c.1=0
      ·have h0b:(c.1 != 0)=false:=by simpa using h0'
       rw [h0b,Bool.false_or]
       by_cases ha:Zi v c=0
       ·rw [show (Zi v c == 0)=true by simpa using ha,cond_true]
        rw [if_neg (by omega),if_neg (by omega)] at hR2'
        exact ⟨hfi,hR2'⟩
       ·rw [show (Zi v c == 0)=false by simpa using ha,cond_false]
        refine ⟨⟨by omega,hlen⟩,?_⟩
        by_cases hpos:0 < Zi v c
        ·rw [decide_eq_true hpos,cond_true]
         rw [if_pos ⟨h0',hpos⟩,if_neg (by omega)] at hR2'
         exact ⟨⟨by omega,by omega⟩,hfi,by simpa using hR2'⟩
        ·rw [decide_eq_false hpos,cond_false]
         rw [if_neg (by omega),if_pos ⟨h0',by omega⟩] at hR2'
         exact ⟨⟨by omega,by omega⟩,hfi,by simpa using hR2'⟩
      ·have h0b:(c.1 != 0)=true:=by simpa using h0'
       rw [h0b,Bool.true_or,cond_true]
       rw [if_neg (fun h=>h0' h.1),if_neg (fun h=>h0' h.1)] at hR2'
       exact ⟨hfi,hR2'⟩
     ·have:i=p.length:=by omega
      subst this
      simp only [Int.lt_irrefl,decide_false,cond_false,List.take_length]
      have a1:=Zkl p v
      have a2:=ZnL p v
      have hcb:=Zp2 (a:=ZiB p v) (b:=upN p v) (by omega) (by omega)
      have hR1':=hR1 ev _ rfl
      rw [Zeo] at hR1'
      simp only [if_neg (show ¬ v+1=0 by omega)] at hR1'
      refine ⟨fun h=>⟨h,h,hcb⟩,fun h=>⟨h,h,trivial⟩,fun h=>by rw [h];rfl,?_⟩
      have hcst:((ZiB p v:Int)*(upN p v:Int))=(ZeZ p v:Int):=by unfold ZeZ;push_cast;rfl
      by_cases hv0:v=0
      ·subst hv0
       simp only [if_true]
       have hb0:ZiH p (Zc5 p 0) 0=0:=by
        have:Zc5 p 0=0:=rfl
        rw [this];unfold ZiH;split<;>rfl
       rw [hb0] at hR1'
       rw [decide_eq_true (show (-1:Int) < 0 by omega),Bool.true_or,cond_true,hcst]
       refine ⟨by rw [← hcst];exact hcb,⟨by omega,by omega⟩,hR1'⟩
      ·simp only [if_neg hv0]
       rw [decide_eq_false (show ¬ (ZeZ p (Zc5 p v):Int) < 0 by omega),Bool.false_or,hcst]
       by_cases hle:ZeZ p v≤ZeZ p (Zc5 p v)
       ·rw [decide_eq_true (by omega),cond_true]
        unfold ZiH at hR1'
        rw [if_pos hle] at hR1'
        exact ⟨by rw [← hcst];exact hcb,⟨by omega,by omega⟩,hR1'⟩
       ·rw [decide_eq_false (by omega),cond_false]
        unfold ZiH at hR1'
        rw [if_neg hle] at hR1'
        exact ⟨⟨by omega,by omega⟩,hR1'⟩
    ·have:v=N:=by omega
     subst this
     simp only [Int.lt_irrefl,decide_false,cond_false]
theorem Lp.flt {α β : Type} {body : Int × List β → (Int × List β → Prop) → Prop} (l : List α) (d : α) (o : List β) (f : Nat × α → Bool) (g : Nat × α → β) (hl : l.length ≤ 9223372036854775807)
 (h:∀ (i:Nat) (t:List β) (R:Int×List β→Prop),i < l.length→(i:Int) < (l.length:Int)→Zw .i64 ((i:Int)+1)→t.length≤o.length+i→(f (i,l.getD i d)=true→R ((i:Int)+1,t++[g (i,l.getD i d)]))→(f (i,l.getD i d)=false→R ((i:Int)+1,t))→body ((i:Int),t) R)
 (h2:∀ R:Int×List β→Prop,(o++((Zbc d l).filter f).map g).length≤o.length+l.length→body ((l.length:Int),o++((Zbc d l).filter f).map g) R):Lp body (0,o):=by
 refine Lp.iter l.length (fun i y=>y=((i:Int),o++(((Zbc d l).take i).filter f).map g)) (by simp) ?_
 rintro i y hle rfl R hR
 have hlen:(o++(((Zbc d l).take i).filter f).map g).length≤o.length+i:=by
  have:=List.length_filter_le f ((Zbc d l).take i)
  rw [List.length_take] at this
  simp only [List.length_append,List.length_map];omega
 by_cases e:i < l.length
 ·have hR':=hR e _ rfl
  rw [Zga d l e,List.filter_append] at hR'
  refine h i _ R e (by omega) ⟨by omega,by omega⟩ hlen (fun hf=>?_) (fun hf=>?_)
  ·rw [List.filter_cons_of_pos hf,List.filter_nil,List.map_append,← List.append_assoc] at hR'
   exact hR'
  ·rw [List.filter_cons_of_neg (by rw [hf];simp),List.filter_nil,List.append_nil] at hR'
   exact hR'
 ·have:i=l.length:=by omega
  subst this
  have ht:(Zbc d l).take l.length=Zbc d l:=by rw [← Zeh d,List.take_length]
  rw [ht] at hlen ⊢
  exact h2 R hlen
theorem Zpl {α:Type} (d:α) (l:List α):(Zbc d l).map (·.2)=l:=by
 apply List.ext_getElem (by simp [Zbc])
 intro i h1 h2
 simp only [Zbc,List.getElem_map,List.getElem_range]
 exact ZT h2
theorem Zio {α β:Type} (d:α) (l:List α) (f:α→Bool) (g:α→β):((Zbc d l).filter fun ix=>f ix.2).map (fun ix=>g ix.2)=(l.filter f).map g:=by
 have h:((Zbc d l).map (·.2)).filter f=l.filter f:=by rw [Zpl]
 rw [← h,List.filter_map,List.map_map]
 rfl
theorem Zqu {α:Type} {d:α} {l:List α} {ix:Nat×α} (h:ix∈Zbc d l):ix.1 < l.length∧ix.2=l.getD ix.1 d∧ix.2∈l:=by
 simp only [Zbc,List.mem_map,List.mem_range] at h
 obtain ⟨i,hi,rfl⟩:=h
 exact ⟨hi,rfl,Zl hi⟩
theorem Lp.flat {α β : Type} {body : Int × List β → (Int × List β → Prop) → Prop} (l : List α) (d : α) (o : List β) (g : α → List β) (hl : l.length ≤ 9223372036854775807)
 (h:∀ (i:Nat) (R:Int×List β→Prop),i < l.length→(i:Int) < (l.length:Int)→Zw .i64 ((i:Int)+1)→R ((i:Int)+1,(o++(l.take i).flatMap g)++g (l.getD i d))→body ((i:Int),o++(l.take i).flatMap g) R)
 (h2:∀ R:Int×List β→Prop,body ((l.length:Int),o++l.flatMap g) R):Lp body (0,o):=by
 refine Lp.iter l.length (fun i y=>y=((i:Int),o++(l.take i).flatMap g)) (by simp) ?_
 rintro i y hle rfl R hR
 by_cases e:i < l.length
 ·refine h i R e (by omega) ⟨by omega,by omega⟩ (hR e _ ?_)
  rw [Zb6 (d:=d) e,List.flatMap_append]
  simp
 ·have:i=l.length:=by omega
  subst this
  rw [List.take_length]
  exact h2 R
theorem ZdD {α β:Type} {g:α→List β} {k:Nat}:∀ {l:List α},(∀ x∈l,(g x).length≤k)→(l.flatMap g).length≤l.length*k
 | [],_=>by simp
 | x::l,h=>by
   rw [List.flatMap_cons,List.length_append,List.length_cons,Nat.succ_mul]
   have h1:=h x (by simp)
   have h2:=ZdD (l:=l) fun y hy=>h y (List.mem_cons_of_mem _ hy)
   omega
theorem ZuX {a b:Int} (ha:-1048576≤a∧a≤1048576) (hb:-1048576≤b∧b≤1048576):-1099511627776≤a*b∧a*b≤1099511627776 :=
 ZcA (n:=1048576) (m:=1048576) (by omega) (by omega) ha.1 ha.2 hb.1 hb.2
theorem ZnJ {a:Int} (ha:-1048576≤a∧a≤1048576):-1048576≤Zbo a∧Zbo a≤1048576:=by unfold Zbo;omega
theorem Zp.spec (x:Pc) (hp:Zp.pre (x,())):Zp.wp x (fun r=>r=Zp.fn (x,())):=by
 obtain ⟨⟨k,h400,⟨hpl,hpb⟩,_,_⟩,h0,h1⟩:=hp
 simp only at h400 hpl hpb h0 h1
 have hfn:Zp.fn (x,())=[ZdY x]:=rfl
 simp only [Zp.wp,hfn]
 unfold ZdY
 have he:x.2.2.2.1.toNat < x.2.2.1.length:=by omega
 have hmem:=Zl (d:=ZbB) he
 obtain ⟨e,hee⟩:∃ e,x.2.2.1.getD x.2.2.2.1.toNat ZbB=e:=⟨_,rfl⟩
 simp only [hee] at hmem ⊢
 obtain ⟨heM,hea,heL,hek⟩:=hpb e hmem
 refine ⟨⟨h0,h1⟩,Zp4.of (P:=fun y=>y.1=Zbo e.2.1∧-y.2.1=(if e.2.1 < 0 then 1 else -1)) ?_ ?_⟩
 ·rintro ⟨size,s,b1,b2⟩ ⟨hy1,hy2⟩
  simp only at hy1 hy2
  simp only [hy1,hy2]
  have key:∀ o:List Zc,o=x.2.1→Lp (σ:=Int×List (Zc)) (fun y4 R4=>let v1:=List.getD x.2.2.1 (Int.toNat y4.1) (Zb,((0:Int),(([]:List Int),(0:Int))));let v3:=[(v1.1.1,((Zbo e.2.1*v1.1.2.1),(ZE.fn (Zbo e.2.1,(v1.2.2,(((if e.2.1 < 0 then 1 else -1)*v1.2.1),(e.2.2,())))))))];cond (decide (y4.1 < ((List.length x.2.2.1:Nat):Int))) (((0:Int)≤y4.1∧y4.1 < ((List.length x.2.2.1:Nat):Int))∧cond (y4.1 != x.2.2.2.1) (Zw IntKind.i64 (Zbo e.2.1*v1.1.2.1)∧(Zw IntKind.i64 (if e.2.1 < 0 then 1 else -1)∧(Zw IntKind.i64 ((if e.2.1 < 0 then 1 else -1)*v1.2.1)∧(ZE.pre (Zbo e.2.1,(v1.2.2,(((if e.2.1 < 0 then 1 else -1)*v1.2.1),(e.2.2,()))))∧((((List.length y4.2+List.length v3)*48)≤140737488355328∧(List.length y4.2+List.length v3)≤9223372036854775807)∧(Zw IntKind.i64 (y4.1+(1:Int))∧R4 ((y4.1+(1:Int)),(y4.2++v3)))))))) (Zw IntKind.i64 (y4.1+(1:Int))∧R4 ((y4.1+(1:Int)),y4.2))) (cond (decide ((1:Int) < Zbo e.2.1)) ((((List.length y4.2+List.length [((2:Int),(Zbo e.2.1,e.2.2))])*48)≤140737488355328∧(List.length y4.2+List.length [((2:Int),(Zbo e.2.1,e.2.2))])≤9223372036854775807)∧[(y4.2++[((2:Int),(Zbo e.2.1,e.2.2))])]=[x.2.1++((Zbc ZbB x.2.2.1).filter fun jq=>decide ((jq.1:Int)≠x.2.2.2.1)).map (fun jq=>ZsX e jq.2)++(if 1 < Zbo e.2.1 then [(2,Zbo e.2.1,e.2.2)] else [])]) ([y4.2]=[x.2.1++((Zbc ZbB x.2.2.1).filter fun jq=>decide ((jq.1:Int)≠x.2.2.2.1)).map (fun jq=>ZsX e jq.2)++(if 1 < Zbo e.2.1 then [(2,Zbo e.2.1,e.2.2)] else [])]))) ((0:Int),o):=by
   intro o ho
   refine Lp.flt x.2.2.1 ZbB o (fun jq=>decide ((jq.1:Int)≠x.2.2.2.1)) (fun jq=>ZsX e jq.2) (by omega) (fun i t R hi hi' hf htl h1 h2=>?_) (fun R hlen=>?_)
   ·have hm:=Zl (d:=ZbB) hi
    simp only [decide_eq_true hi',Int.toNat_natCast,cond_true]
    obtain ⟨q,hq⟩:∃ q,x.2.2.1.getD i ZbB=q:=⟨_,rfl⟩
    simp only [hq] at hm h1 h2 ⊢
    obtain ⟨hqM,hqa,hqL,hqk⟩:=hpb q hm
    refine ⟨⟨by omega,hi'⟩,?_⟩
    by_cases hne:(i:Int)≠x.2.2.2.1
    ·rw [show ((i:Int) != x.2.2.2.1)=true by simpa using hne,cond_true]
     have hab:=ZnJ hea
     have hpr:=ZuX hab hqM
     have hs:-1048576≤(if e.2.1 < 0 then (1:Int) else -1)*q.2.1∧(if e.2.1 < 0 then (1:Int) else -1)*q.2.1≤1048576:=by split<;>omega
     have hsf:Zw IntKind.i64 (if e.2.1 < 0 then (1:Int) else -1):=by split<;>exact ⟨by omega,by omega⟩
     refine ⟨⟨by omega,by omega⟩,hsf,⟨by omega,by omega⟩,⟨hab,hqL,hs,heL,by show q.2.2.1.length=e.2.2.1.length;omega⟩,⟨by simp only [List.length_singleton];subst ho;omega,by simp only [List.length_singleton];subst ho;omega⟩,hf,h1 (decide_eq_true hne)⟩
    ·rw [show ((i:Int) != x.2.2.2.1)=false by simpa using hne,cond_false]
     exact ⟨hf,h2 (decide_eq_false hne)⟩
   ·simp only [Int.lt_irrefl,decide_false,cond_false]
    subst ho
    by_cases ha:1 < Zbo e.2.1
    ·rw [decide_eq_true ha,cond_true,if_pos ha]
     exact ⟨⟨by simp only [List.length_singleton];omega,by simp only [List.length_singleton];omega⟩,rfl⟩
    ·rw [decide_eq_false ha,cond_false,if_neg ha,List.append_nil]
  rintro (_ | _) hb
  ·simp only [cond_false,List.nil_append,List.length_nil,Nat.zero_add]
   exact ⟨⟨by omega,by omega⟩,key _ rfl⟩
  ·simp only [cond_true]
   exact key _ (hb rfl).symm
 ·intro R hR
  by_cases ha:e.2.1 < 0
  ·rw [decide_eq_true ha,cond_true]
   exact ⟨⟨by omega,by omega⟩,hR _ ⟨by simp only;unfold Zbo;omega,by simp only [if_pos ha];omega⟩⟩
  ·rw [decide_eq_false ha,cond_false]
   exact hR _ ⟨by simp only;unfold Zbo;omega,by simp only [if_neg ha]⟩
theorem Zo.spec (x:Pc) (hp:Zo.pre (x,())):Zo.wp x (fun r=>r=Zo.fn (x,())):=by
 obtain ⟨k,h400,_,⟨hll,hlb⟩,⟨hul,hub⟩⟩:=hp
 simp only at h400 hll hlb hul hub
 obtain ⟨g,hg⟩:∃ g:Part→List Zc,g=fun l=>x.2.2.2.2.2.1.map fun u=>(0,0,Zd4 l.2.1 u.2.2 (-u.2.1) l.2.2):=⟨_,rfl⟩
 have hfn:Zo.fn (x,())=[x.2.1++x.2.2.2.2.1.flatMap g]:=by rw [hg]
 simp only [Zo.wp,hfn]
 have hgl:∀ l:List Part,l.length≤400→(l.flatMap g).length≤160000:=fun l hl=>by
  have:=ZdD (g:=g) (k:=400) (l:=l) fun y hy=>by rw [hg];simp only [List.length_map];exact hul
  have:=Nat.mul_le_mul hl (Nat.le_refl 400)
  omega
 have key:∀ o:List Zc,o=x.2.1→Lp (σ:=Int×List (Zc)) (fun y3 R3=>let v3:=List.getD x.2.2.2.2.1 (Int.toNat y3.1) (Zb,((0:Int),(([]:List Int),(0:Int))));cond (decide (y3.1 < ((List.length x.2.2.2.2.1:Nat):Int))) (((0:Int)≤y3.1∧y3.1 < ((List.length x.2.2.2.2.1:Nat):Int))∧Lp (σ:=Int×List (Zc)) (fun y5 R5=>let v2:=List.getD x.2.2.2.2.2.1 (Int.toNat y5.1) (Zb,((0:Int),(([]:List Int),(0:Int))));let v5:=[((0:Int),((0:Int),(ZE.fn (v3.2.1,(v2.2.2,((-v2.2.1),(v3.2.2,())))))))];cond (decide (y5.1 < ((List.length x.2.2.2.2.2.1:Nat):Int))) (((0:Int)≤y5.1∧y5.1 < ((List.length x.2.2.2.2.2.1:Nat):Int))∧(Zw IntKind.i64 (-v2.2.1)∧(ZE.pre (v3.2.1,(v2.2.2,((-v2.2.1),(v3.2.2,()))))∧((((List.length y5.2+List.length v5)*48)≤140737488355328∧(List.length y5.2+List.length v5)≤9223372036854775807)∧(Zw IntKind.i64 (y5.1+(1:Int))∧R5 ((y5.1+(1:Int)),(y5.2++v5))))))) (Zw IntKind.i64 (y3.1+(1:Int))∧R3 ((y3.1+(1:Int)),y5.2))) ((0:Int),y3.2)) ([y3.2]=[x.2.1++x.2.2.2.2.1.flatMap g])) ((0:Int),o):=by
  intro o ho
  refine Lp.flat x.2.2.2.2.1 ZbB o g (by omega) (fun i R hi hi' hf hR=>?_) (fun R=>?_)
  ·have hm:=Zl (d:=ZbB) hi
   simp only [decide_eq_true hi',Int.toNat_natCast,cond_true]
   obtain ⟨l,hl⟩:∃ l,x.2.2.2.2.1.getD i ZbB=l:=⟨_,rfl⟩
   simp only [hl] at hm hR ⊢
   obtain ⟨hqM,hqa,hqL,hqk⟩:=hlb l hm
   refine ⟨⟨by omega,hi'⟩,?_⟩
   have htk:(x.2.2.2.2.1.take i).length≤400:=by rw [List.length_take];omega
   have ho1:=hgl _ htk
   refine Lp.flt x.2.2.2.2.2.1 ZbB _ (fun _=>true) (fun ju=>(0,0,Zd4 l.2.1 ju.2.2.2 (-ju.2.2.1) l.2.2)) (by omega) (fun j t R1 hj hj' hfj htl h1 h2=>?_) (fun R1 hlen=>?_)
   ·have hmu:=Zl (d:=ZbB) hj
    simp only [decide_eq_true hj',Int.toNat_natCast,cond_true]
    obtain ⟨u,hu⟩:∃ u,x.2.2.2.2.2.1.getD j ZbB=u:=⟨_,rfl⟩
    simp only [hu] at hmu h1 ⊢
    obtain ⟨huM,hua,huL,huk⟩:=hub u hmu
    have htl':t.length≤170000:=by rw [List.length_append] at htl;subst ho;omega
    exact ⟨⟨by omega,hj'⟩,⟨by omega,by omega⟩,⟨hqa,huL,⟨by show -1048576≤-u.2.1;omega,by show -u.2.1≤1048576;omega⟩,hqL,by show u.2.2.1.length=l.2.2.1.length;omega⟩,⟨by simp only [List.length_singleton];omega,by simp only [List.length_singleton];omega⟩,hfj,h1 trivial⟩
   ·simp only [Int.lt_irrefl,decide_false,cond_false]
    refine ⟨hf,?_⟩
    have e:=Zio ZbB x.2.2.2.2.2.1 (fun _=>true) (fun u=>((0:Int),(0:Int),Zd4 l.2.1 u.2.2 (-u.2.1) l.2.2))
    rw [e,List.filter_eq_self.2 (fun _ _=>rfl)]
    rw [hg] at hR ⊢
    exact hR
  ·simp only [Int.lt_irrefl,decide_false,cond_false]
   rw [ho]
 rintro (_ | _) hb
 ·simp only [cond_false,List.nil_append,List.length_nil,Nat.zero_add]
  exact ⟨⟨by omega,by omega⟩,key _ rfl⟩
 ·simp only [cond_true]
  exact key _ (hb rfl).symm
theorem ZqV {n l:Int} (hl:l≠0) (hn:-1048576≤n∧n≤1048576):-1048576≤n.tdiv l∧n.tdiv l≤1048576:=by
 have h:(n.tdiv l).natAbs≤n.natAbs:=by rw [Int.natAbs_tdiv];exact Nat.div_le_self _ _
 omega
theorem Zj.spec (x:Pc) (l:Int) (w:Lin) (all:Bool) (hp:Zj.pre (x,l,w,all,())):Zj.wp x l w all (fun r=>r=Zj.fn (x,l,w,all,())):=by
 obtain ⟨⟨k,⟨h400,⟨hpl,hpb⟩,_,_⟩,hwk⟩,hl0,hw⟩:=hp
 simp only at h400 hpl hpb hwk hl0 hw
 have hfn:Zj.fn (x,l,w,all,())=x.2.1++(x.2.2.1.filter fun q=>all||decide (q.1.1=2)).map (fun q=>(q.1.1,q.1.2.1,Zd4 1 q.2.2 (q.2.1.tdiv l) w))++[(2,l,w)]:=rfl
 simp only [Zj.wp,hfn]
 have key:∀ o:List Zc,o=x.2.1→Lp (σ:=Int×List (Zc)) (fun y6 R6=>let v0:=List.getD x.2.2.1 (Int.toNat y6.1) (Zb,((0:Int),(([]:List Int),(0:Int))));let v2:=[(v0.1.1,(v0.1.2.1,(ZE.fn ((1:Int),(v0.2.2,(Int.tdiv v0.2.1 l,(w,())))))))];cond (decide (y6.1 < ((List.length x.2.2.1:Nat):Int))) (((0:Int)≤y6.1∧y6.1 < ((List.length x.2.2.1:Nat):Int))∧(((!all)=true→((!all)=true∧True))∧(((!all)=true→((!all)=true∧True))∧(((!all)=true→((!all)=true∧True))∧((all=false→(!all)=true)∧cond (all||(v0.1.1 == (2:Int))) ((l≠(0:Int)∧Zw IntKind.i64 (Int.tdiv v0.2.1 l))∧(ZE.pre ((1:Int),(v0.2.2,(Int.tdiv v0.2.1 l,(w,()))))∧((((List.length y6.2+List.length v2)*48)≤140737488355328∧(List.length y6.2+List.length v2)≤9223372036854775807)∧(Zw IntKind.i64 (y6.1+(1:Int))∧R6 ((y6.1+(1:Int)),(y6.2++v2)))))) (Zw IntKind.i64 (y6.1+(1:Int))∧R6 ((y6.1+(1:Int)),y6.2))))))) ((((List.length y6.2+List.length ([((2:Int),(l,w))]))*48)≤140737488355328∧(List.length y6.2+List.length ([((2:Int),(l,w))]))≤9223372036854775807)∧(y6.2++[((2:Int),(l,w))])=x.2.1++(x.2.2.1.filter fun q=>all||decide (q.1.1=2)).map (fun q=>(q.1.1,q.1.2.1,Zd4 1 q.2.2 (q.2.1.tdiv l) w))++[(2,l,w)])) ((0:Int),o):=by
  intro o ho
  refine Lp.flt x.2.2.1 ZbB o (fun jq=>all||decide (jq.2.1.1=2)) (fun jq=>(jq.2.1.1,jq.2.1.2.1,Zd4 1 jq.2.2.2 (jq.2.2.1.tdiv l) w)) (by omega) (fun i t R hi hi' hf htl h1 h2=>?_) (fun R hlen=>?_)
  ·have hm:=Zl (d:=ZbB) hi
   simp only [decide_eq_true hi',Int.toNat_natCast,cond_true]
   obtain ⟨q,hq⟩:∃ q,x.2.2.1.getD i ZbB=q:=⟨_,rfl⟩
   simp only [hq] at hm h1 h2 ⊢
   obtain ⟨hqM,hqa,hqL,hqk⟩:=hpb q hm
   have htd:=ZqV hl0 hqa
   refine ⟨⟨by omega,hi'⟩,fun h=>⟨h,trivial⟩,fun h=>⟨h,trivial⟩,fun h=>⟨h,trivial⟩,fun h=>by rw [h];rfl,?_⟩
   have hcb:(all||(q.1.1 == 2))=(all||decide (q.1.1=2)):=rfl
   rw [hcb]
   cases hb:(all||decide (q.1.1=2)) with
   | true =>
     rw [cond_true]
     exact ⟨⟨hl0,⟨by omega,by omega⟩⟩,⟨⟨by show (-1048576:Int)≤1;omega,by show (1:Int)≤1048576;omega⟩,hqL,htd,hw,by show q.2.2.1.length=w.1.length;omega⟩,⟨by simp only [List.length_singleton];subst ho;omega,by simp only [List.length_singleton];subst ho;omega⟩,hf,h1 hb⟩
   | false =>
     rw [cond_false]
     exact ⟨hf,h2 hb⟩
  ·simp only [Int.lt_irrefl,decide_false,cond_false]
   subst ho
   refine ⟨⟨by simp only [List.length_singleton];omega,by simp only [List.length_singleton];omega⟩,?_⟩
   rw [Zio ZbB x.2.2.1 (fun q=>all||decide (q.1.1=2)) (fun q=>(q.1.1,q.1.2.1,Zd4 1 q.2.2 (q.2.1.tdiv l) w))]
 rintro (_ | _) hb
 ·simp only [cond_false,List.nil_append,List.length_nil,Nat.zero_add]
  exact ⟨⟨by omega,by omega⟩,key _ rfl⟩
 ·simp only [cond_true]
  exact key _ (hb rfl).symm
theorem pieceN.c {p:List Zc} {n:Int} (h:pieceN p n) {c:Zc} (hc:c∈p):Zf c=true∧(c.2.2.1.length:Int)=n:=h.2.1 c hc
theorem Zmb {c:Zc} (h:Zf c=true):-1048576≤c.2.1∧c.2.1≤1048576:=by
 unfold Zf at h
 split at h
 ·simp only [Bool.and_eq_true,beq_iff_eq] at h;omega
 ·split at h
  ·simp only [Bool.and_eq_true,decide_eq_true_iff] at h;omega
  ·cases h
end Go.Proofs.YtgpdnmfpgkkgcaaGreatDoor
namespace Go.Proofs.YtgpdnmfpgkkgcaaGreatDoor
open Go
set_option linter.unusedVariables false
theorem Zbw {v:Nat} {p:List Zc} {c:Zc}:c∈Zz v p↔c∈p∧Zi v c≠0:=by simp [Zz]
theorem Zgn {v:Nat} {p:List Zc} (h:(Zbz v p).2=0):(Zbz v p).1=(ZjD ((Zz v p).map fun c=>Zbo (Zi v c)):Int)∧1≤(Zbz v p).1∧(Zbz v p).1≤512:=by
 unfold Zbz at h ⊢
 rcases Zjs ((Zz v p).map fun c=>Zbo (Zi v c)) with h1 | h1 | ⟨h1,h2,h3,h4⟩
 ·rw [h] at h1;cases h1
 ·rw [h] at h1;cases h1
 ·rw [h3]
  have:=ZnP h2
  exact ⟨rfl,by omega,by omega⟩
theorem Zgi {v:Nat} {p:List Zc} (h:(Zbz v p).2=0) {c:Zc} (hc:c∈Zz v p):ZbV v (Zbz v p).1 c*Zbo (Zi v c)=(Zbz v p).1∧1≤ZbV v (Zbz v p).1 c∧ZbV v (Zbz v p).1 c≤512∧1≤Zbo (Zi v c):=by
 obtain ⟨h1,h2,h3⟩:=Zgn h
 have ha:1≤Zbo (Zi v c):=by have:=(Zbw.1 hc).2;unfold Zbo;omega
 have hd:Zbo (Zi v c) ∣ (Zbz v p).1:=by
  rw [h1]
  exact Zj3 (List.mem_map_of_mem (f:=fun c=>Zbo (Zi v c)) hc)
 obtain ⟨l,hl⟩:∃ l,(Zbz v p).1=l:=⟨_,rfl⟩
 rw [hl] at h2 h3 hd ⊢
 unfold ZbV
 have hm:l.tdiv (Zbo (Zi v c))*Zbo (Zi v c)=l:=Int.tdiv_mul_cancel hd
 have hq:l.tdiv (Zbo (Zi v c))=l / Zbo (Zi v c):=Int.tdiv_eq_ediv_of_nonneg (by omega)
 refine ⟨hm,?_,?_,ha⟩
 ·rw [hq] at hm ⊢
  have h0:0≤l / Zbo (Zi v c):=Int.ediv_nonneg (by omega) (by omega)
  rcases Int.lt_or_le 0 (l / Zbo (Zi v c)) with h | h
  ·omega
  ·have:l / Zbo (Zi v c)=0:=by omega
   rw [this] at hm;omega
 ·rw [hq]
  exact Int.le_trans (Int.ediv_le_self _ (by omega)) h3
theorem ZqW {v:Nat} {p:List Zc} {l:Int} (h:(Zjd v p l).2=0):1≤(Zjd v p l).1∧(Zjd v p l).1≤512∧l ∣ (Zjd v p l).1∧∀ c∈Zz v p,c.1=2→c.2.1*ZbV v l c ∣ (Zjd v p l).1:=by
 unfold Zjd at h ⊢
 rcases Zjs (l::((Zz v p).filter fun c=>decide (c.1=2)).map fun c=>c.2.1*ZbV v l c) with h1 | h1 | ⟨h1,h2,h3,h4⟩
 ·rw [h] at h1;cases h1
 ·rw [h] at h1;cases h1
 ·rw [h3]
  have:=ZnP h2
  refine ⟨by omega,by omega,Zj3 (by simp),fun c hc h2'=>Zj3 (List.mem_cons_of_mem _ ?_)⟩
  exact List.mem_map_of_mem (f:=fun c=>c.2.1*ZbV v l c) (List.mem_filter.2 ⟨hc,by simpa using h2'⟩)
def ZdK (B:Int) (n:Nat) (l:Lin):Prop:=l.1.length=n∧(∀ x∈l.1,-B≤x∧x≤B)∧-B≤l.2∧l.2≤B
theorem ZdK.small {B:Int} {n:Nat} {l:Lin} (h:ZdK B n l) (hB:B≤4294967296) (hn:n≤1048576):ZeT l :=
 ⟨by have:=h.1;omega,fun x hx=>by have:=h.2.1 x hx;omega,by have:=h.2.2;omega,by have:=h.2.2;omega⟩
theorem ZdK.linB {B:Int} {n:Nat} {l:Lin} (h:ZdK B n l) (hB:B≤2305843009213693952) (hn:n≤1048576):linB l :=
 ⟨by have:=h.1;omega,fun x hx=>by have:=h.2.1 x hx;unfold ZeP;omega,by have:=h.2.2;unfold ZeP;omega⟩
theorem ZdK.getD {B:Int} {n:Nat} {l:Lin} (h:ZdK B n l) (hB:0≤B) (i:Nat):-B≤l.1.getD i 0∧l.1.getD i 0≤B:=Zqj (P:=fun x=>-B≤x∧x≤B) h.2.1 (by omega)
theorem Zl4 {a b A B C D:Int} {l m:Lin} {n:Nat} (hA:0≤A) (hB:0≤B) (hC:0≤C) (hD:0≤D) (ha:-A≤a∧a≤A) (hl:ZdK C n l) (hb:-B≤b∧b≤B) (hm:ZdK D n m):ZdK (A*C+B*D) n (Zd4 a l b m):=by
 have key:∀ x y:Int,(-C≤x∧x≤C)→(-D≤y∧y≤D)→-(A*C+B*D)≤a*x+b*y∧a*x+b*y≤A*C+B*D:=fun x y hx hy=>by
  have h1:=ZcA hA hC ha.1 ha.2 hx.1 hx.2
  have h2:=ZcA hB hD hb.1 hb.2 hy.1 hy.2
  omega
 refine ⟨by simp [Zd4,hl.1],fun x hx=>?_,key _ _ hl.2.2 hm.2.2⟩
 simp only [Zd4,List.mem_map,List.mem_range] at hx
 obtain ⟨i,hi,rfl⟩:=hx
 exact key _ _ (hl.getD hC i) (hm.getD hD i)
theorem Zcs {c:Zc} {n:Int} {v:Nat} (h:Zf c=true∧(c.2.2.1.length:Int)=n) (hv:(v:Int) < n):ZdK 1048576 (n.toNat - 1) (ZeG v c):=by
 have hl:=Zaw.b (Zf.lin h.1)
 refine ⟨?_,fun x hx=>hl.2.1 x (Zr7 hx),hl.2.2⟩
 show (ZrQ c.2.2.1 v).length=_
 rw [Zsr (by omega)];omega
theorem Zex {c:Zc} (h:Zf c=true):ZoD c:=by
 unfold Zf at h
 split at h
 ·rename_i h1;exact h1.elim .inl fun h=>.inr (.inl h)
 ·split at h
  ·rename_i h2
   simp only [Bool.and_eq_true,decide_eq_true_iff] at h
   exact .inr (.inr ⟨h2,by omega,by omega⟩)
  ·cases h
theorem Zna {c:Zc} {n:Int} {v:Nat} (h:Zf c=true∧(c.2.2.1.length:Int)=n) (hv:(v:Int) < n) (hn:n≤12):condB (Zej v c)∧(Zej v c).2.2.1.length=n.toNat - 1:=by
 have hr:=Zcs h hv
 have hk:=Zex h.1
 exact ⟨⟨hk,hr.linB (by omega) (by omega)⟩,hr.1⟩
theorem ZlS {k m f:Int} {l l':Lin} (h:ZoD (k,m,l)) (hm:-1048576≤m∧m≤1048576) (h1:1≤f) (h2:f≤1048576):ZoD (k,m*f,l'):=by
 rcases h with h | h | ⟨h,h3,h4⟩
 ·exact .inl h
 ·exact .inr (.inl h)
 ·simp only at h h3 h4
  have h5:=Int.mul_le_mul h3 h1 (by omega) (by omega)
  have h6:=ZuX hm (b:=f) (by omega)
  exact .inr (.inr ⟨h,by show 1≤m*f;omega,by show m*f≤2305843009213693952;omega⟩)
theorem Zvd {c e : Zc} {n : Int} {v : Nat} (h : Zf c = true ∧ (c.2.2.1.length : Int) = n) (he : Zf e = true ∧ (e.2.2.1.length : Int) = n) (hv : (v : Int) < n) (hn : n ≤ 12) (h0 : Zi v e ≠ 0) :
 condB (Zqp v e c)∧(Zqp v e c).2.2.1.length=n.toNat - 1:=by
 have hr:=Zcs h hv
 have hre:=Zcs he hv
 have hab:=ZnJ (ZdO he.1 v)
 have hcb:=ZdO h.1 v
 have ha1:1≤Zbo (Zi v e):=by unfold Zbo;omega
 have hs:-1048576≤Zi v c*(if Zi v e < 0 then 1 else -1)∧Zi v c*(if Zi v e < 0 then 1 else -1)≤1048576:=by split<;>omega
 have hm:=Zl4 (A:=1048576) (B:=1048576) (by omega) (by omega) (by omega) (by omega) hab hr hs hre
 exact ⟨⟨ZlS (Zex h.1) (Zmb h.1) ha1 hab.2,hm.linB (by omega) (by omega)⟩,hm.1⟩
theorem ZjI {c:Zc} {n:Int} {v:Nat} {l:Int} (h:Zf c=true∧(c.2.2.1.length:Int)=n) (hv:(v:Int) < n) (hf:1≤ZbV v l c∧ZbV v l c≤512):ZdK 536870912 (n.toNat - 1) (ZiV v l c):=by
 have hr:=Zcs h hv
 have key:∀ x:Int,(-1048576≤x∧x≤1048576)→-536870912≤ZbV v l c*x∧ZbV v l c*x≤536870912:=fun x hx =>
  ZcA (n:=512) (m:=1048576) (by omega) (by omega) (by omega) hf.2 hx.1 hx.2
 refine ⟨by simp [ZiV,hr.1],fun x hx=>?_,key _ hr.2.2⟩
 simp only [ZiV,List.mem_map] at hx
 obtain ⟨y,hy,rfl⟩:=hx
 exact key y (hr.2.1 y hy)
theorem Zuk {c : Zc} {n : Int} {v : Nat} {l : Int} {w : Lin} (h : Zf c = true ∧ (c.2.2.1.length : Int) = n) (hv : (v : Int) < n) (hn : n ≤ 12) (hf : 1 ≤ ZbV v l c ∧ ZbV v l c ≤ 512) (hw : ZdK 536871424 (n.toNat - 1) w) :
 condB (Zvs v l w c)∧(Zvs v l w c).2.2.1.length=n.toNat - 1:=by
 have hs:=ZjI h hv hf
 have hm:=Zl4 (A:=1) (B:=1) (by omega) (by omega) (by omega) (by omega) (show (-1:Int)≤1∧(1:Int)≤1 by omega) hs (show -1≤Zo6 (Zi v c)∧Zo6 (Zi v c)≤1 by unfold Zo6;split<;>omega) hw
 exact ⟨⟨ZlS (Zex h.1) (Zmb h.1) hf.1 (by omega),hm.linB (by omega) (by omega)⟩,hm.1⟩
theorem ZjH {c:Zc} {n:Int} {v:Nat} {l:Int} {low:Bool} {j:Nat} (h:Zf c=true∧(c.2.2.1.length:Int)=n) (hv:(v:Int) < n) (hf:1≤ZbV v l c∧ZbV v l c≤512) (hj:j≤512):ZdK 536871424 (n.toNat - 1) (Zdi v l c low j):=by
 have hs:=ZjI h hv hf
 cases low with
 | true =>
   refine ⟨by simp [Zdi,hs.1],fun x hx=>?_,by have:=hs.2.2;simp only [Zdi,if_true];omega⟩
   simp only [Zdi,if_true,List.mem_map] at hx
   obtain ⟨y,hy,rfl⟩:=hx
   have:=hs.2.1 y hy
   omega
 | false =>
   refine ⟨by simp [Zdi,hs.1],fun x hx=>?_,by have:=hs.2.2;simp only [Zdi,Bool.false_eq_true,if_false];omega⟩
   simp only [Zdi,Bool.false_eq_true,if_false] at hx
   have:=hs.2.1 x hx
   omega
theorem Zqv {n:Nat} {j:Nat} (hj:j≤512):ZdK 536871424 n (List.replicate n 0,(j:Int)) :=
 ⟨by simp,fun x hx=>by rw [(List.mem_replicate.1 hx).2];omega,by simp only;omega⟩
def Zki (n:Nat) (q:List Zc):Prop:=q.length≤200000∧∀ c∈q,condB c∧c.2.2.1.length=n
theorem Zki.D {n:Nat} {q:List Zc} (h:Zki n q):ZaG q∧ZdJ q n:=⟨⟨by have:=h.1;omega,fun c hc=>(h.2 c hc).1⟩,fun c hc=>(h.2 c hc).2⟩
section
variable {p:List Zc} {n:Int} {v:Nat}
theorem Zdc:(ZbQ v p).length≤p.length:=by unfold ZbQ;rw [List.length_map];exact List.length_filter_le _ _
theorem Zgg (h:pieceN p n) (hv:(v:Int) < n):∀ c∈ZbQ v p,condB c∧c.2.2.1.length=n.toNat - 1:=fun c hc=>by
 simp only [ZbQ,List.mem_map,List.mem_filter] at hc
 obtain ⟨d,⟨hd,_⟩,rfl⟩:=hc
 exact Zna (h.c hd) hv h.2.2.2
theorem ZgH (h:pieceN p n) (hv:(v:Int) < n) {i:Nat} (hi:i < p.length) (h0:Zi v (p.getD i Zb)≠0):Zki (n.toNat - 1) (Zd6 v p i):=by
 have hm:=Zl (d:=Zb) hi
 have he:=h.c hm
 have hr:=Zcs he hv
 have hab:=ZnJ (ZdO he.1 v)
 refine ⟨?_,fun c hc=>?_⟩
 ·unfold Zd6
  have:=List.length_filter_le (fun jc:Nat×Zc=>decide (jc.1≠i)) (Zbc Zb p)
  rw [Zeh] at this
  have:=h.1
  simp only [List.length_append,List.length_map]
  split<;>simp only [List.length_cons,List.length_nil]<;>omega
 ·unfold Zd6 at hc
  rcases List.mem_append.1 hc with hc | hc
  ·simp only [List.mem_map,List.mem_filter] at hc
   obtain ⟨jc,⟨hj,_⟩,rfl⟩:=hc
   have hd:=h.c (Zqu hj).2.2
   split
   ·exact Zna hd hv h.2.2.2
   ·exact Zvd hd he hv h.2.2.2 h0
  ·split at hc
   ·rename_i h1
    simp only [List.mem_singleton] at hc
    subst hc
    exact ⟨⟨.inr (.inr ⟨rfl,by show 1≤Zbo _;omega,by show Zbo _≤_;omega⟩),hr.linB (by omega) (by have:=h.2.2.2;omega)⟩,hr.1⟩
   ·cases hc
theorem ZiP (h:pieceN p n) (hv:(v:Int) < n):Zki (n.toNat - 1) (ZjJ v p):=by
 have hle:∀ f:Zc→Bool,(p.filter f).length≤400:=fun f=>Nat.le_trans (List.length_filter_le _ _) h.1
 refine ⟨?_,fun c hc=>?_⟩
 ·unfold ZjJ
  have h1:=Zdc (v:=v) (p:=p)
  have h2:=ZdD (g:=fun x=>(upP v p).map (Zuy v x)) (k:=400) (l:=ZcR v p) fun x hx=>by rw [List.length_map];exact hle _
  have h3:=Nat.mul_le_mul (hle fun c=>decide (Zi v c≠0∧c.1≠1∧c.1≠2∧0 < Zi v c)) (Nat.le_refl 400)
  have h4:(ZcR v p).length*400≤400*400:=h3
  have:=h.1
  rw [List.length_append];omega
 ·unfold ZjJ at hc
  rcases List.mem_append.1 hc with hc | hc
  ·exact Zgg h hv c hc
  ·simp only [List.mem_flatMap,List.mem_map] at hc
   obtain ⟨x,hx,y,hy,rfl⟩:=hc
   have hx':=h.c (List.mem_filter.1 hx).1
   have hy':=h.c (List.mem_filter.1 hy).1
   have hcx:=ZdO hx'.1 v
   have hcy:=ZdO hy'.1 v
   have hm:=Zl4 (A:=1048576) (B:=1048576) (by omega) (by omega) (by omega) (by omega) hcx (Zcs hy' hv) (show -1048576≤-Zi v y∧-Zi v y≤1048576 by omega) (Zcs hx' hv)
   exact ⟨⟨.inl rfl,hm.linB (by omega) (by have:=h.2.2.2;omega)⟩,hm.1⟩
theorem Ziy (h:pieceN p n) (hv:(v:Int) < n) (hl:(Zbz v p).2=0) {w:Lin} (hw:ZdK 536871424 (n.toNat - 1) w) (all:Bool):Zki (n.toNat - 1) (ZkL v p (Zbz v p).1 w all):=by
 obtain ⟨hl1,hl2,hl3⟩:=Zgn hl
 refine ⟨?_,fun c hc=>?_⟩
 ·unfold ZkL
  have h1:=Zdc (v:=v) (p:=p)
  have h2:=List.length_filter_le (fun c:Zc=>all||decide (c.1=2)) (Zz v p)
  have h3:(Zz v p).length≤p.length:=List.length_filter_le _ _
  have:=h.1
  simp only [List.length_append,List.length_map,List.length_cons,List.length_nil]
  omega
 ·unfold ZkL at hc
  rcases List.mem_append.1 hc with hc | hc
  ·rcases List.mem_append.1 hc with hc | hc
   ·exact Zgg h hv c hc
   ·simp only [List.mem_map,List.mem_filter] at hc
    obtain ⟨d,⟨hd,_⟩,rfl⟩:=hc
    obtain ⟨_,f1,f2,_⟩:=Zgi hl hd
    exact Zuk (h.c (Zbw.1 hd).1) hv h.2.2.2 ⟨f1,f2⟩ hw
  ·simp only [List.mem_singleton] at hc
   subst hc
   exact ⟨⟨.inr (.inr ⟨rfl,hl2,by show (Zbz v p).1≤_;omega⟩),hw.linB (by omega) (by have:=h.2.2.2;omega)⟩,hw.1⟩
theorem Zhp (h:pieceN p n) (hv:(v:Int) < n) (hl:(Zbz v p).2=0) {d:Nat} (hd:d≤512):(Zdd v p (n.toNat - 1) (Zbz v p).1 d).length≤204800∧∀ q∈Zdd v p (n.toNat - 1) (Zbz v p).1 d,Zki (n.toNat - 1) q:=by
 unfold Zdd
 split
 ·refine ⟨by simp;omega,fun q hq=>?_⟩
  simp only [List.mem_map,List.mem_range] at hq
  obtain ⟨j,hj,rfl⟩:=hq
  exact Ziy h hv hl (Zqv (by omega)) false
 ·refine ⟨?_,fun q hq=>?_⟩
  ·have h2:=ZdD (g:=fun c=>(List.range d).map fun j=>ZkL v p (Zbz v p).1 (Zdi v (Zbz v p).1 c (ZiE v p) j) true) (k:=512) (l:=Zop v p) fun x hx=>by simp;omega
   have h3:(Zop v p).length≤(Zz v p).length:=List.length_filter_le _ _
   have h4:(Zz v p).length≤p.length:=List.length_filter_le _ _
   have:=h.1
   have:=Nat.mul_le_mul (show (Zop v p).length≤400 by omega) (Nat.le_refl 512)
   omega
  ·simp only [List.mem_flatMap,List.mem_map,List.mem_range] at hq
   obtain ⟨c,hc,j,hj,rfl⟩:=hq
   have hcp:=(List.mem_filter.1 hc).1
   obtain ⟨_,f1,f2,_⟩:=Zgi hl hcp
   exact Ziy h hv hl (ZjH (h.c (Zbw.1 hcp).1) hv ⟨f1,f2⟩ (by omega)) true
end
theorem Zu6 (v:Nat) (p:List Zc):eqI v p=-1∨(0≤eqI v p∧(eqI v p).toNat < p.length∧Zi v (p.getD (eqI v p).toNat Zb)≠0∧(p.getD (eqI v p).toNat Zb).1=1):=by
 unfold eqI
 have key : ∀ (l : List Nat) (e : Int), (∀ i ∈ l, i < p.length) → (e = -1 ∨ (0 ≤ e ∧ e.toNat < p.length ∧ Zi v (p.getD e.toNat Zb) ≠ 0 ∧ (p.getD e.toNat Zb).1 = 1)) →
  (l.foldl (ZdS v p) e=-1∨(0≤l.foldl (ZdS v p) e∧(l.foldl (ZdS v p) e).toNat < p.length∧Zi v (p.getD (l.foldl (ZdS v p) e).toNat Zb)≠0∧(p.getD (l.foldl (ZdS v p) e).toNat Zb).1=1)):=by
  intro l
  induction l with
  | nil=>exact fun e _ h=>h
  | cons i l ih =>
    refine fun e hl h=>ih _ (fun j hj=>hl j (List.mem_cons_of_mem _ hj)) ?_
    unfold ZdS
    split
    ·rename_i hc
     exact .inr ⟨by omega,by simpa using hl i (by simp),by simpa using hc.1,by simpa using hc.2.1⟩
    ·exact h
 exact key _ _ (fun i hi=>List.mem_range.1 hi) (.inl rfl)
theorem Zob {p:List Zc} {n:Int} {v:Nat} (h:pieceN p n) (hv:(v:Int) < n) {l:List (List Zc)} (hs:ZeM p n.toNat v=some l):l.length≤204800∧∀ q∈l,Zki (n.toNat - 1) q:=by
 unfold ZeM at hs
 split at hs
 ·rename_i he
  cases hs
  rcases Zu6 v p with h1 | ⟨_,h2,h3,_⟩
  ·omega
  ·exact ⟨by simp,fun q hq=>by rw [List.mem_singleton.1 hq];exact ZgH h hv h2 h3⟩
 ·split at hs
  ·cases hs
   exact ⟨by simp,fun q hq=>by rw [List.mem_singleton.1 hq];exact ⟨by have:=Zdc (v:=v) (p:=p);have:=h.1;omega,Zgg h hv⟩⟩
  ·split at hs
   ·cases hs
    exact ⟨by simp,fun q hq=>by rw [List.mem_singleton.1 hq];exact ZiP h hv⟩
   ·split at hs
    ·cases hs
    ·rename_i hl
     split at hs
     ·cases hs
     ·rename_i hd
      cases hs
      have hl:(Zbz v p).2=0:=by simpa using hl
      have hd:(Zjd v p (Zbz v p).1).2=0:=by simpa using hd
      have:=ZqW hd
      exact Zhp h hv hl (by omega)
theorem Zew {p:List Zc} {n v:Int} (h:pieceN p n) (hv0:0≤v) (hv:v < n) (h0:(Z6 p n v).2=0):PD (n.toNat - 1) (Z6 p n v).1∧Nm (Z6 p n v).1∧∃ l,ZeM p n.toNat v.toNat=some l∧ZfS l=some (Z6 p n v).1:=by
 unfold Z6 at h0 ⊢
 rcases ZaJ (ZeM p n.toNat v.toNat) with e | ⟨l,e⟩
 ·rw [e] at h0;cases h0
 ·simp only [e] at h0 ⊢
  unfold ZjK at h0 ⊢
  rcases ZaJ (ZfS l) with e2 | ⟨out,e2⟩
  ·rw [e2] at h0;cases h0
  ·simp only [e2]
   have hg:=Zob h (v:=v.toNat) (by omega) e
   obtain ⟨k1,k2⟩:=PD.of_tid (fun q hq=>(hg.2 q hq).D) e2
   exact ⟨k1,k2,l,rfl,e2⟩
theorem PD.pieceN {n:Nat} {l:List (List Zc)} (h:PD n l) (hn:n≤12) {q:List Zc} (hq:q∈l):pieceN q (n:Int) :=
 ⟨by have:=(h.1.2 q hq).1;omega,fun c hc=>⟨(h.1.2 q hq).2 c hc,by rw [h.2 q hq c hc]⟩,by omega,by omega⟩
end Go.Proofs.YtgpdnmfpgkkgcaaGreatDoor
namespace Go.Proofs.YtgpdnmfpgkkgcaaGreatDoor
open Go
set_option linter.unusedVariables false
set_option maxRecDepth 4000
def Zvw (v:Nat) (l:Int) (c:Zc):Zc:=(c.1,c.2.1*ZbV v l c,((Zd4 (ZbV v l c) c.2.2 0 c.2.2).1.set v ((Zi v c).tdiv (Zbo (Zi v c))),(Zd4 (ZbV v l c) c.2.2 0 c.2.2).2))
theorem ZdW (f:Int) (l:Lin):Zd4 f l 0 l=(l.1.map fun n=>f*n,f*l.2):=by
 unfold Zd4
 congr 1
 ·apply List.ext_getElem (by simp)
  intro i h1 h2
  simp only [List.length_map,List.length_range] at h1
  simp only [List.getElem_map,List.getElem_range]
  rw [ZT h1];omega
 ·omega
theorem Zss {a:Int} (h:a≠0):a.tdiv (Zbo a)=Zo6 a:=by
 unfold Zo6 Zbo
 split
 ·rw [show max a (-a)=-a by omega,Int.tdiv_neg,Int.tdiv_self h]
 ·rw [show max a (-a)=a by omega,Int.tdiv_self h]
theorem ZoS (v:Nat) (q:List Zc) (c:Zc):Zz v (q++[c])=Zz v q++if Zi v c≠0 then [c] else []:=by
 unfold Zz
 rw [List.filter_append]
 congr 1
 by_cases h:Zi v c≠0<;>simp [h]
theorem ZpQ {c:Zc} (h:Zf c=true) (h2:c.1=2):1≤c.2.1∧c.2.1≤512:=by
 unfold Zf at h
 rw [if_neg (by omega),if_pos h2] at h
 simp only [Bool.and_eq_true,decide_eq_true_iff] at h
 omega
theorem Zrr {c:Zc} {n:Int} {v:Nat} {l:Int} (h:Zf c=true∧(c.2.2.1.length:Int)=n) (hv:(v:Int) < n) (hn:n≤12) (hf:1≤ZbV v l c∧ZbV v l c≤512) (h0:Zi v c≠0):Zwl n.toNat (Zvw v l c):=by
 have hM:-512≤c.2.1∧c.2.1≤512:=by
  rcases Zex h.1 with h1 | h1 | ⟨h1,_,_⟩
  ·have:=h.1;unfold Zf at this;rw [if_pos (.inl h1)] at this;simp only [Bool.and_eq_true,beq_iff_eq] at this;omega
  ·have:=h.1;unfold Zf at this;rw [if_pos (.inr h1)] at this;simp only [Bool.and_eq_true,beq_iff_eq] at this;omega
  ·have:=ZpQ h.1 h1;omega
 have hm:=ZcA (n:=512) (m:=512) (by omega) (by omega) hM.1 hM.2 (show -512≤ZbV v l c by omega) hf.2
 have hl:=Zaw.b (Zf.lin h.1)
 have key:∀ x:Int,(-1048576≤x∧x≤1048576)→-536870912≤ZbV v l c*x∧ZbV v l c*x≤536870912:=fun x hx =>
  ZcA (n:=512) (m:=1048576) (by omega) (by omega) (by omega) hf.2 hx.1 hx.2
 have hlen:(Zvw v l c).2.2.1.length=n.toNat:=by
  show ((Zd4 (ZbV v l c) c.2.2 0 c.2.2).1.set v _).length=_
  rw [ZdW,List.length_set,List.length_map];omega
 refine ⟨by show -1048576≤c.2.1*ZbV v l c∧c.2.1*ZbV v l c≤1048576;omega,⟨by show (Zvw v l c).2.2.1.length≤_;omega,fun x hx=>?_,?_⟩,hlen⟩
 ·have hx':x∈(Zd4 (ZbV v l c) c.2.2 0 c.2.2).1.set v ((Zi v c).tdiv (Zbo (Zi v c))):=hx
  rw [Zss h0,ZdW] at hx'
  rcases List.mem_or_eq_of_mem_set hx' with hx' | rfl
  ·simp only [List.mem_map] at hx'
   obtain ⟨y,hy,rfl⟩:=hx'
   have:=key y (hl.2.1 y hy)
   omega
  ·unfold Zo6;split<;>omega
 ·show -4294967296≤(Zd4 (ZbV v l c) c.2.2 0 c.2.2).2∧(Zd4 (ZbV v l c) c.2.2 0 c.2.2).2≤4294967296
  rw [ZdW]
  have:=key _ hl.2.2
  simp only;omega
def eqJ (v:Nat) (p:List Zc) (i:Nat):Int:=(List.range i).foldl (ZdS v p) (-1)
theorem ZnX (v:Nat) (p:List Zc) (i:Nat):eqJ v p (i+1)=ZdS v p (eqJ v p i) i:=by
 unfold eqJ
 rw [List.range_succ,List.foldl_append];rfl
theorem Zpq (v:Nat) (p:List Zc):∀ i,i≤p.length→eqJ v p i=-1∧(∀ j,j < i→Zi v (p.getD j Zb)≠0→(p.getD j Zb).1≠1)∨(0≤eqJ v p i∧eqJ v p i < (i:Int)∧Zi v (p.getD (eqJ v p i).toNat Zb)≠0∧(p.getD (eqJ v p i).toNat Zb).1=1)
 | 0,_=>.inl ⟨rfl,fun j hj=>absurd hj (by omega)⟩
 | i+1,hi=>by
   rw [ZnX]
   have ih:=Zpq v p i (by omega)
   unfold ZdS
   split
   ·rename_i h
    exact .inr ⟨by omega,by omega,by simpa using h.1,by simpa using h.2.1⟩
   ·rename_i h
    rcases ih with ⟨h1,h2⟩ | ⟨h1,h2,h3⟩
    ·refine .inl ⟨h1,fun j hj hc=>?_⟩
     by_cases e:j=i
     ·subst e
      exact fun hk=>h ⟨hc,hk,.inl (by omega)⟩
     ·exact h2 j (by omega) hc
    ·exact .inr ⟨h1,by omega,h3⟩
theorem Zor (v:Nat) (q:List Zc) (c:Zc):ZbQ v (q++[c])=ZbQ v q++if Zi v c=0 then [Zej v c] else []:=by
 unfold ZbQ
 rw [List.filter_append,List.map_append]
 congr 1
 by_cases h:Zi v c=0<;>simp [h]
theorem Zql (v:Nat) (q:List Zc) (c:Zc):ZkS v (q++[c])=ZkS v q++if Zi v c≠0∧c.1=2 then [c] else []:=by
 unfold ZkS
 rw [List.filter_append]
 congr 1
 by_cases h:Zi v c≠0∧c.1=2
 ·rw [if_pos h,List.filter_cons_of_pos (by simpa using h)];rfl
 ·rw [if_neg h,List.filter_cons_of_neg (by simpa using h)];rfl
theorem Zox (v:Nat) (q:List Zc) (c:Zc):ZcR v (q++[c])=ZcR v q++if Zi v c≠0∧c.1≠1∧c.1≠2∧0 < Zi v c then [c] else []:=by
 unfold ZcR
 rw [List.filter_append]
 congr 1
 by_cases h:Zi v c≠0∧c.1≠1∧c.1≠2∧0 < Zi v c
 ·rw [if_pos h,List.filter_cons_of_pos (by simpa using h)];rfl
 ·rw [if_neg h,List.filter_cons_of_neg (by simpa using h)];rfl
theorem ZqP (v:Nat) (q:List Zc) (c:Zc):upP v (q++[c])=upP v q++if Zi v c≠0∧c.1≠1∧c.1≠2∧¬ 0 < Zi v c then [c] else []:=by
 unfold upP
 rw [List.filter_append]
 congr 1
 by_cases h:Zi v c≠0∧c.1≠1∧c.1≠2∧¬ 0 < Zi v c
 ·rw [if_pos h,List.filter_cons_of_pos (by simpa using h)];rfl
 ·rw [if_neg h,List.filter_cons_of_neg (by simpa using h)];rfl
theorem ZfJ {f:Zc→Bool} {p:List Zc} (i:Nat):((p.take i).filter f).length≤i:=Nat.le_trans (List.length_filter_le _ _) (by rw [List.length_take];omega)
def ZI.wp (x0:List Zc) (x1:Int) (x2:Int) (Q:(List (List Zc))×Int→Prop):Prop:=let v3:=Int.toNat (x2+(1:Int));(Zw IntKind.i64 (x1 - (1:Int))∧Lp (σ:=Int×Int×Int×(List (Zc))×(List ((Zc)×Int×(List Int)×Int))×(List ((Zc)×Int×(List Int)×Int))×(List ((Zc)×Int×(List Int)×Int))×List ((Zc)×Int×(List Int)×Int)) (fun y4 R4=>let v0:=List.getD x0 (Int.toNat y4.1) Zb;let v1:=List.getD v0.2.2.1 (Int.toNat x2) (0:Int);let v2:=List.take (Int.toNat x2) v0.2.2.1;let v4:=[(v0.1,(v0.2.1,((v2++List.drop v3 v0.2.2.1),v0.2.2.2)))];let v5:=List.length y4.2.2.2.2.1;let v6:=List.getD y4.2.2.2.2.1 (Int.toNat y4.2.2.1) (Zb,((0:Int),(([]:List Int),(0:Int))));let v8:=[(v0,(v1,((v2++List.drop v3 v0.2.2.1),v0.2.2.2)))];let v9:=List.length y4.2.2.2.2.2.1;let v10:=List.length y4.2.2.2.2.2.2.1;let v11:=List.length y4.2.2.2.2.2.2.2;let v12:=Zp.fn ((y4.2.1,(y4.2.2.2.1,(y4.2.2.2.2.1,(y4.2.2.1,(y4.2.2.2.2.2.2.1,(y4.2.2.2.2.2.2.2,y4.2.2.2.2.2.1)))))),());let v27:=List.replicate (Int.toNat y4.2.1) (0:Int);let v78:=Zo.fn ((y4.2.1,(y4.2.2.2.1,(y4.2.2.2.2.1,(y4.2.2.1,(y4.2.2.2.2.2.2.1,(y4.2.2.2.2.2.2.2,y4.2.2.2.2.2.1)))))),());cond (decide (y4.1 < ((List.length x0:Nat):Int))) (((0:Int)≤y4.1∧y4.1 < ((List.length x0:Nat):Int))∧((List.length v0.2.2.1*8)≤140737488355328∧(Zw IntKind.i64 (x2+(1:Int))∧((v0.2.2.1≠([]:List Int)∧((0:Int)≤x2∧(x2≤(x2+(1:Int))∧(x2+(1:Int))≤((List.length v0.2.2.1:Nat):Int))))∧(((0:Int)≤x2∧x2 < ((List.length v0.2.2.1:Nat):Int))∧cond (v1 == (0:Int)) ((((List.length y4.2.2.2.1+List.length v4)*48)≤140737488355328∧(List.length y4.2.2.2.1+List.length v4)≤9223372036854775807)∧(Zw IntKind.i64 (y4.1+(1:Int))∧R4 ((y4.1+(1:Int)),(y4.2.1,(y4.2.2.1,((y4.2.2.2.1++v4),y4.2.2.2.2)))))) (cond (v0.1 == (1:Int)) (((!(decide (y4.2.2.1 < (0:Int))))=true→((!(decide (y4.2.2.1 < (0:Int))))=true∧Zw IntKind.i64 (-v1)))∧(((!(decide (y4.2.2.1 < (0:Int))))=true→((!(decide (y4.2.2.1 < (0:Int))))=true∧((!(decide (y4.2.2.1 < (0:Int))))=true∧True)))∧(((!(decide (y4.2.2.1 < (0:Int))))=true→((!(decide (y4.2.2.1 < (0:Int))))=true∧True))∧(((!(decide (y4.2.2.1 < (0:Int))))=true→((!(decide (y4.2.2.1 < (0:Int))))=true∧True))∧(((!(decide (y4.2.2.1 < (0:Int))))=true→((!(decide (y4.2.2.1 < (0:Int))))=true∧((!(decide (y4.2.2.1 < (0:Int))))=true∧((0:Int)≤y4.2.2.1∧y4.2.2.1 < ((v5:Nat):Int)))))∧(((!(decide (y4.2.2.1 < (0:Int))))=true→((!(decide (y4.2.2.1 < (0:Int))))=true∧True))∧(((!(decide (y4.2.2.1 < (0:Int))))=true→((!(decide (y4.2.2.1 < (0:Int))))=true∧Int.toNat y4.2.2.1 < v5))∧(((!(decide (y4.2.2.1 < (0:Int))))=true→((!(decide (y4.2.2.1 < (0:Int))))=true∧True))∧(((!(decide (y4.2.2.1 < (0:Int))))=true→((!(decide (y4.2.2.1 < (0:Int))))=true∧True))∧(((!(decide (y4.2.2.1 < (0:Int))))=true→((!(decide (y4.2.2.1 < (0:Int))))=true∧((!(decide (y4.2.2.1 < (0:Int))))=true∧((0:Int)≤y4.2.2.1∧y4.2.2.1 < ((v5:Nat):Int)))))∧(((!(decide (y4.2.2.1 < (0:Int))))=true→((!(decide (y4.2.2.1 < (0:Int))))=true∧True))∧(((!(decide (y4.2.2.1 < (0:Int))))=true→((!(decide (y4.2.2.1 < (0:Int))))=true∧Int.toNat y4.2.2.1 < v5))∧(((!(decide (y4.2.2.1 < (0:Int))))=true→((!(decide (y4.2.2.1 < (0:Int))))=true∧Zw IntKind.i64 (-v6.2.1)))∧(((!(decide (y4.2.2.1 < (0:Int))))=true→((!(decide (y4.2.2.1 < (0:Int))))=true∧((!(decide (y4.2.2.1 < (0:Int))))=true∧True)))∧(((!(decide (y4.2.2.1 < (0:Int))))=true→((!(decide (y4.2.2.1 < (0:Int))))=true∧((!(decide (y4.2.2.1 < (0:Int))))=true∧True)))∧((decide (y4.2.2.1 < (0:Int))=false→(!(decide (y4.2.2.1 < (0:Int))))=true)∧cond (decide (y4.2.2.1 < (0:Int))||decide (Max.max v1 (-v1) < (Max.max v6.2.1 (-v6.2.1)))) ((((v5+List.length v8)*88)≤140737488355328∧(v5+List.length v8)≤9223372036854775807)∧(Zw IntKind.i64 (y4.1+(1:Int))∧R4 ((y4.1+(1:Int)),(y4.2.1,(((v5:Nat):Int),(y4.2.2.2.1,((y4.2.2.2.2.1++v8),y4.2.2.2.2.2))))))) ((((v5+List.length v8)*88)≤140737488355328∧(v5+List.length v8)≤9223372036854775807)∧(Zw IntKind.i64 (y4.1+(1:Int))∧R4 ((y4.1+(1:Int)),(y4.2.1,(y4.2.2.1,(y4.2.2.2.1,((y4.2.2.2.2.1++v8),y4.2.2.2.2.2))))))))))))))))))))))) (cond (v0.1 == (2:Int)) ((((v9+List.length v8)*88)≤140737488355328∧(v9+List.length v8)≤9223372036854775807)∧((((v5+List.length v8)*88)≤140737488355328∧(v5+List.length v8)≤9223372036854775807)∧(Zw IntKind.i64 (y4.1+(1:Int))∧R4 ((y4.1+(1:Int)),(y4.2.1,(y4.2.2.1,(y4.2.2.2.1,((y4.2.2.2.2.1++v8),((y4.2.2.2.2.2.1++v8),y4.2.2.2.2.2.2))))))))) (cond (decide ((0:Int) < v1)) ((((v10+List.length v8)*88)≤140737488355328∧(v10+List.length v8)≤9223372036854775807)∧((((v5+List.length v8)*88)≤140737488355328∧(v5+List.length v8)≤9223372036854775807)∧(Zw IntKind.i64 (y4.1+(1:Int))∧R4 ((y4.1+(1:Int)),(y4.2.1,(y4.2.2.1,(y4.2.2.2.1,((y4.2.2.2.2.1++v8),(y4.2.2.2.2.2.1,((y4.2.2.2.2.2.2.1++v8),y4.2.2.2.2.2.2.2)))))))))) ((((v11+List.length v8)*88)≤140737488355328∧(v11+List.length v8)≤9223372036854775807)∧((((v5+List.length v8)*88)≤140737488355328∧(v5+List.length v8)≤9223372036854775807)∧(Zw IntKind.i64 (y4.1+(1:Int))∧R4 ((y4.1+(1:Int)),(y4.2.1,(y4.2.2.1,(y4.2.2.2.1,((y4.2.2.2.2.1++v8),(y4.2.2.2.2.2.1,(y4.2.2.2.2.2.2.1,(y4.2.2.2.2.2.2.2++v8))))))))))))))))))) (cond (decide ((0:Int)≤y4.2.2.1)) (Zp.pre ((y4.2.1,(y4.2.2.2.1,(y4.2.2.2.2.1,(y4.2.2.1,(y4.2.2.2.2.2.2.1,(y4.2.2.2.2.2.2.2,y4.2.2.2.2.2.1)))))),())∧Lp (σ:=Int×(List (List (Zc)))×(ByteArray→Option Bool)) (fun y6 R6=>let v13:=List.getD v12 (Int.toNat y6.1) ([]:List (Zc));let v14:=Zn.fn ((Za.fn (v13,())).1,());let v16:=[(Za.fn (v13,())).1];cond (decide (y6.1 < ((List.length v12:Nat):Int))) (((0:Int)≤y6.1∧y6.1 < ((List.length v12:Nat):Int))∧(Za.pre (v13,())∧cond (((Za.fn (v13,())).2).2 != (0:Int)) (((!((0:Int) != (0:Int)))=true→((!((0:Int) != (0:Int)))=true∧True))∧((((0:Int) != (0:Int))=false→(!((0:Int) != (0:Int)))=true)∧cond (((0:Int) != (0:Int))||(((Za.fn (v13,())).2).2 != (0:Int))) (Q (([]:List (List (Zc))),(3:Int))) (Q (([]:List (List (Zc))),(0:Int))))) (((!(((Za.fn (v13,())).2).1))=true→((!(((Za.fn (v13,())).2).1))=true∧Zn.pre ((Za.fn (v13,())).1,())))∧(((!(((Za.fn (v13,())).2).1))=true→((!(((Za.fn (v13,())).2).1))=true∧((!(((Za.fn (v13,())).2).1))=true∧True)))∧((((Za.fn (v13,())).2).1=false→(!(((Za.fn (v13,())).2).1))=true)∧cond (((Za.fn (v13,())).2).1||(Option.getD (y6.2.2 v14) false)) (Zw IntKind.i64 (y6.1+(1:Int))∧R6 ((y6.1+(1:Int)),y6.2)) (Zn.pre ((Za.fn (v13,())).1,())∧((((List.length y6.2.1+List.length v16)*24)≤140737488355328∧(List.length y6.2.1+List.length v16)≤9223372036854775807)∧cond (decide ((400:Int) < (((List.length (y6.2.1++v16)):Nat):Int))) (((!((0:Int) != (0:Int)))=true→((!((0:Int) != (0:Int)))=true∧True))∧((((0:Int) != (0:Int))=false→(!((0:Int) != (0:Int)))=true)∧Q (([]:List (List (Zc))),(3:Int)))) (Zw IntKind.i64 (y6.1+(1:Int))∧R6 ((y6.1+(1:Int)),((y6.2.1++v16),Zc6 y6.2.2 v14 true)))))))))) (((!((0:Int) != (0:Int)))=true→((!((0:Int) != (0:Int)))=true∧True))∧((((0:Int) != (0:Int))=false→(!((0:Int) != (0:Int)))=true)∧Q (y6.2.1,(0:Int))))) ((0:Int),(([]:List (List (Zc))),fun (a6:ByteArray)=>(none:Option Bool)))) (cond (decide ((0:Int) < ((v9:Nat):Int))) (Lp (σ:=Int×List Int) (fun y6 R6=>let v18:=List.getD y4.2.2.2.2.1 (Int.toNat y6.1) (Zb,((0:Int),(([]:List Int),(0:Int))));let v19:=Max.max v18.2.1 (-v18.2.1);cond (decide (y6.1 < ((v5:Nat):Int))) (((0:Int)≤y6.1∧y6.1 < ((v5:Nat):Int))∧(Int.toNat y6.1 < v5∧(Zw IntKind.i64 (-v18.2.1)∧((((List.length y6.2+List.length [v19])*8)≤140737488355328∧(List.length y6.2+List.length [v19])≤9223372036854775807)∧(Zw IntKind.i64 (y6.1+(1:Int))∧R6 ((y6.1+(1:Int)),(y6.2++[v19]))))))) (ZG.pre (y6.2,())∧cond ((ZG.fn (y6.2,())).2 != (0:Int)) (((!((3:Int) != (0:Int)))=true→((!((3:Int) != (0:Int)))=true∧True))∧((((3:Int) != (0:Int))=false→(!((3:Int) != (0:Int)))=true)∧Q (([]:List (List (Zc))),(3:Int)))) (Lp (σ:=Int×(List Int)×List ((Zc)×Int×(List Int)×Int)) (fun y8 R8=>let v21:=List.getD y8.2.2 (Int.toNat y8.1) (Zb,((0:Int),(([]:List Int),(0:Int))));let v22:=Max.max v21.2.1 (-v21.2.1);let v23:=Int.tdiv ((ZG.fn (y6.2,())).1) v22;let v24:=List.length ([(v21.1.2.1*v23)]);let v26:=List.set y8.2.2 (Int.toNat y8.1) ((v21.1.1,((v21.1.2.1*v23),(([]:List Int),(0:Int)))),((v21.2.1*v23),(ZE.fn (v23,(v21.2.2,((0:Int),(v21.2.2,())))))));cond (decide (y8.1 < ((v5:Nat):Int))) (((0:Int)≤y8.1∧y8.1 < ((List.length y8.2.2:Nat):Int))∧(Int.toNat y8.1 < List.length y8.2.2∧(Zw IntKind.i64 (-v21.2.1)∧((v22≠(0:Int)∧Zw IntKind.i64 v23)∧(Zw IntKind.i64 (v21.1.2.1*v23)∧(Zw IntKind.i64 (v21.2.1*v23)∧(ZE.pre (v23,(v21.2.2,((0:Int),(v21.2.2,()))))∧(((0:Int)≤y8.1∧y8.1 < ((List.length y8.2.2:Nat):Int))∧(Int.toNat y8.1 < List.length y8.2.2∧cond (v21.1.1 == (2:Int)) (Zw IntKind.i64 (v21.1.2.1*v23)∧((((List.length y8.2.1+v24)*8)≤140737488355328∧(List.length y8.2.1+v24)≤9223372036854775807)∧(Zw IntKind.i64 (y8.1+(1:Int))∧R8 ((y8.1+(1:Int)),((y8.2.1++[(v21.1.2.1*v23)]),v26))))) (Zw IntKind.i64 (y8.1+(1:Int))∧R8 ((y8.1+(1:Int)),(y8.2.1,v26)))))))))))) (ZG.pre (y8.2.1,())∧cond ((ZG.fn (y8.2.1,())).2 != (0:Int)) (((!((3:Int) != (0:Int)))=true→((!((3:Int) != (0:Int)))=true∧True))∧((((3:Int) != (0:Int))=false→(!((3:Int) != (0:Int)))=true)∧Q (([]:List (List (Zc))),(3:Int)))) (((!(((v10:Nat):Int) == (0:Int)))=true→((!(((v10:Nat):Int) == (0:Int)))=true∧True))∧(((!(((v10:Nat):Int) == (0:Int)))=true→((!(((v10:Nat):Int) == (0:Int)))=true∧True))∧(((!(((v10:Nat):Int) == (0:Int)))=true→((!(((v10:Nat):Int) == (0:Int)))=true∧True))∧(((((v10:Nat):Int) == (0:Int))=false→(!(((v10:Nat):Int) == (0:Int)))=true)∧cond ((((v10:Nat):Int) == (0:Int))||(((v11:Nat):Int) == (0:Int))) (Lp (σ:=Int×(List (List (Zc)))×(ByteArray→Option Bool)) (fun y10 R10=>let v28:=Zj.fn ((y4.2.1,(y4.2.2.2.1,(y8.2.2,(y4.2.2.1,(y4.2.2.2.2.2.2.1,(y4.2.2.2.2.2.2.2,y4.2.2.2.2.2.1)))))),((ZG.fn (y6.2,())).1,((v27,y10.1),(false,()))));let v29:=Zn.fn ((Za.fn (v28,())).1,());let v31:=[(Za.fn (v28,())).1];cond (decide (y10.1 < (ZG.fn (y8.2.1,())).1)) (((0:Int)≤y4.2.1∧(y4.2.1≤y4.2.1∧((y4.2.1*((8:Nat):Int))≤(140737488355328:Int)∧y4.2.1≤(9223372036854775807:Int))))∧(Zj.pre ((y4.2.1,(y4.2.2.2.1,(y8.2.2,(y4.2.2.1,(y4.2.2.2.2.2.2.1,(y4.2.2.2.2.2.2.2,y4.2.2.2.2.2.1)))))),((ZG.fn (y6.2,())).1,((v27,y10.1),(false,()))))∧(Za.pre (v28,())∧cond (((Za.fn (v28,())).2).2 != (0:Int)) (((!((0:Int) != (0:Int)))=true→((!((0:Int) != (0:Int)))=true∧True))∧((((0:Int) != (0:Int))=false→(!((0:Int) != (0:Int)))=true)∧cond (((0:Int) != (0:Int))||(((Za.fn (v28,())).2).2 != (0:Int))) (Q (([]:List (List (Zc))),(3:Int))) (Q (([]:List (List (Zc))),(0:Int))))) (((!(((Za.fn (v28,())).2).1))=true→((!(((Za.fn (v28,())).2).1))=true∧Zn.pre ((Za.fn (v28,())).1,())))∧(((!(((Za.fn (v28,())).2).1))=true→((!(((Za.fn (v28,())).2).1))=true∧((!(((Za.fn (v28,())).2).1))=true∧True)))∧((((Za.fn (v28,())).2).1=false→(!(((Za.fn (v28,())).2).1))=true)∧cond (((Za.fn (v28,())).2).1||(Option.getD (y10.2.2 v29) false)) (Zw IntKind.i64 (y10.1+(1:Int))∧R10 ((y10.1+(1:Int)),y10.2)) (Zn.pre ((Za.fn (v28,())).1,())∧((((List.length y10.2.1+List.length v31)*24)≤140737488355328∧(List.length y10.2.1+List.length v31)≤9223372036854775807)∧cond (decide ((400:Int) < (((List.length (y10.2.1++v31)):Nat):Int))) (((!((0:Int) != (0:Int)))=true→((!((0:Int) != (0:Int)))=true∧True))∧((((0:Int) != (0:Int))=false→(!((0:Int) != (0:Int)))=true)∧Q (([]:List (List (Zc))),(3:Int)))) (Zw IntKind.i64 (y10.1+(1:Int))∧R10 ((y10.1+(1:Int)),((y10.2.1++v31),Zc6 y10.2.2 v29 true))))))))))) (((!((0:Int) != (0:Int)))=true→((!((0:Int) != (0:Int)))=true∧True))∧((((0:Int) != (0:Int))=false→(!((0:Int) != (0:Int)))=true)∧Q (y10.2.1,(0:Int))))) ((0:Int),(([]:List (List (Zc))),fun (a10:ByteArray)=>(none:Option Bool)))) (Lp (σ:=Int×(List (List (Zc)))×(ByteArray→Option Bool)) (fun y10 R10=>let v33:=List.getD y8.2.2 (Int.toNat y10.1) (Zb,((0:Int),(([]:List Int),(0:Int))));let v34:=ZE.fn ((-(1:Int)),(v33.2.2,((0:Int),(v33.2.2,()))));cond (decide (y10.1 < ((List.length y8.2.2:Nat):Int))) (((0:Int)≤y10.1∧y10.1 < ((List.length y8.2.2:Nat):Int))∧(((!(v33.1.1 == (2:Int)))=true→((!(v33.1.1 == (2:Int)))=true∧True))∧(((!(v33.1.1 == (2:Int)))=true→((!(v33.1.1 == (2:Int)))=true∧True))∧(((!(v33.1.1 == (2:Int)))=true→((!(v33.1.1 == (2:Int)))=true∧((!(v33.1.1 == (2:Int)))=true∧True)))∧(((v33.1.1 == (2:Int))=false→(!(v33.1.1 == (2:Int)))=true)∧cond ((v33.1.1 == (2:Int))||(decide ((0:Int) < v33.2.1) != decide (((v10:Nat):Int)≤((v11:Nat):Int)))) (Zw IntKind.i64 (y10.1+(1:Int))∧R10 ((y10.1+(1:Int)),y10.2)) (Lp (σ:=Int×(List (List (Zc)))×(ByteArray→Option Bool)) (fun y12 R12=>let v35:=ZY.fn (v33.2.2,((-y12.1),()));let v36:=Zj.fn ((y4.2.1,(y4.2.2.2.1,(y8.2.2,(y4.2.2.1,(y4.2.2.2.2.2.2.1,(y4.2.2.2.2.2.2.2,y4.2.2.2.2.2.1)))))),((ZG.fn (y6.2,())).1,(v35,(true,()))));let v37:=Zn.fn ((Za.fn (v36,())).1,());let v39:=[(Za.fn (v36,())).1];let v41:=ZY.fn (v34,(y12.1,()));let v42:=Zj.fn ((y4.2.1,(y4.2.2.2.1,(y8.2.2,(y4.2.2.1,(y4.2.2.2.2.2.2.1,(y4.2.2.2.2.2.2.2,y4.2.2.2.2.2.1)))))),((ZG.fn (y6.2,())).1,(v41,(true,()))));let v43:=Zn.fn ((Za.fn (v42,())).1,());let v45:=[(Za.fn (v42,())).1];cond (decide (y12.1 < (ZG.fn (y8.2.1,())).1)) (ZE.pre ((-(1:Int)),(v33.2.2,((0:Int),(v33.2.2,()))))∧(ZY.pre (v34,(y12.1,()))∧cond (!(decide (((v10:Nat):Int)≤((v11:Nat):Int)))) (Zw IntKind.i64 (-y12.1)∧(ZY.pre (v33.2.2,((-y12.1),()))∧(Zj.pre ((y4.2.1,(y4.2.2.2.1,(y8.2.2,(y4.2.2.1,(y4.2.2.2.2.2.2.1,(y4.2.2.2.2.2.2.2,y4.2.2.2.2.2.1)))))),((ZG.fn (y6.2,())).1,(v35,(true,()))))∧(Za.pre (v36,())∧cond (((Za.fn (v36,())).2).2 != (0:Int)) (((!((0:Int) != (0:Int)))=true→((!((0:Int) != (0:Int)))=true∧True))∧((((0:Int) != (0:Int))=false→(!((0:Int) != (0:Int)))=true)∧cond (((0:Int) != (0:Int))||(((Za.fn (v36,())).2).2 != (0:Int))) (Q (([]:List (List (Zc))),(3:Int))) (Q (([]:List (List (Zc))),(0:Int))))) (((!(((Za.fn (v36,())).2).1))=true→((!(((Za.fn (v36,())).2).1))=true∧Zn.pre ((Za.fn (v36,())).1,())))∧(((!(((Za.fn (v36,())).2).1))=true→((!(((Za.fn (v36,())).2).1))=true∧((!(((Za.fn (v36,())).2).1))=true∧True)))∧((((Za.fn (v36,())).2).1=false→(!(((Za.fn (v36,())).2).1))=true)∧cond (((Za.fn (v36,())).2).1||(Option.getD (y12.2.2 v37) false)) (Zw IntKind.i64 (y12.1+(1:Int))∧R12 ((y12.1+(1:Int)),y12.2)) (Zn.pre ((Za.fn (v36,())).1,())∧((((List.length y12.2.1+List.length v39)*24)≤140737488355328∧(List.length y12.2.1+List.length v39)≤9223372036854775807)∧cond (decide ((400:Int) < (((List.length (y12.2.1++v39)):Nat):Int))) (((!((0:Int) != (0:Int)))=true→((!((0:Int) != (0:Int)))=true∧True))∧((((0:Int) != (0:Int))=false→(!((0:Int) != (0:Int)))=true)∧Q (([]:List (List (Zc))),(3:Int)))) (Zw IntKind.i64 (y12.1+(1:Int))∧R12 ((y12.1+(1:Int)),((y12.2.1++v39),Zc6 y12.2.2 v37 true)))))))))))) (Zj.pre ((y4.2.1,(y4.2.2.2.1,(y8.2.2,(y4.2.2.1,(y4.2.2.2.2.2.2.1,(y4.2.2.2.2.2.2.2,y4.2.2.2.2.2.1)))))),((ZG.fn (y6.2,())).1,(v41,(true,()))))∧(Za.pre (v42,())∧cond (((Za.fn (v42,())).2).2 != (0:Int)) (((!((0:Int) != (0:Int)))=true→((!((0:Int) != (0:Int)))=true∧True))∧((((0:Int) != (0:Int))=false→(!((0:Int) != (0:Int)))=true)∧cond (((0:Int) != (0:Int))||(((Za.fn (v42,())).2).2 != (0:Int))) (Q (([]:List (List (Zc))),(3:Int))) (Q (([]:List (List (Zc))),(0:Int))))) (((!(((Za.fn (v42,())).2).1))=true→((!(((Za.fn (v42,())).2).1))=true∧Zn.pre ((Za.fn (v42,())).1,())))∧(((!(((Za.fn (v42,())).2).1))=true→((!(((Za.fn (v42,())).2).1))=true∧((!(((Za.fn (v42,())).2).1))=true∧True)))∧((((Za.fn (v42,())).2).1=false→(!(((Za.fn (v42,())).2).1))=true)∧cond (((Za.fn (v42,())).2).1||(Option.getD (y12.2.2 v43) false)) (Zw IntKind.i64 (y12.1+(1:Int))∧R12 ((y12.1+(1:Int)),y12.2)) (Zn.pre ((Za.fn (v42,())).1,())∧((((List.length y12.2.1+List.length v45)*24)≤140737488355328∧(List.length y12.2.1+List.length v45)≤9223372036854775807)∧cond (decide ((400:Int) < (((List.length (y12.2.1++v45)):Nat):Int))) (((!((0:Int) != (0:Int)))=true→((!((0:Int) != (0:Int)))=true∧True))∧((((0:Int) != (0:Int))=false→(!((0:Int) != (0:Int)))=true)∧Q (([]:List (List (Zc))),(3:Int)))) (Zw IntKind.i64 (y12.1+(1:Int))∧R12 ((y12.1+(1:Int)),((y12.2.1++v45),Zc6 y12.2.2 v43 true)))))))))))) (Zw IntKind.i64 (y10.1+(1:Int))∧R10 ((y10.1+(1:Int)),y12.2))) ((0:Int),y10.2))))))) (((!((0:Int) != (0:Int)))=true→((!((0:Int) != (0:Int)))=true∧True))∧((((0:Int) != (0:Int))=false→(!((0:Int) != (0:Int)))=true)∧Q (y10.2.1,(0:Int))))) ((0:Int),(([]:List (List (Zc))),fun (a10:ByteArray)=>(none:Option Bool)))))))))) ((0:Int),(([(ZG.fn (y6.2,())).1]),y4.2.2.2.2.1))))) ((0:Int),([]:List Int))) (Lp (σ:=Int) (fun y6 R6=>let v47:=List.getD y4.2.2.2.2.2.2.1 (Int.toNat y6) (Zb,((0:Int),(([]:List Int),(0:Int))));cond (decide (y6 < ((v10:Nat):Int))) (((0:Int)≤y6∧y6 < ((v10:Nat):Int))∧Lp (σ:=Int) (fun y8 R8=>cond (decide (y8 < ((v11:Nat):Int))) (((0:Int)≤y8∧y8 < ((v11:Nat):Int))∧(((v47.2.1 != (1:Int))=true→((v47.2.1 != (1:Int))=true∧True))∧(((v47.2.1 != (1:Int))=true→((v47.2.1 != (1:Int))=true∧True))∧(((v47.2.1 != (1:Int))=true→(v47.2.1 != (1:Int))=true)∧cond ((v47.2.1 != (1:Int))&&((List.getD y4.2.2.2.2.2.2.2 (Int.toNat y8) (Zb,((0:Int),(([]:List Int),(0:Int))))).2.1 != (-(1:Int)))) (Lp (σ:=Int×List Int) (fun y10 R10=>let v49:=List.getD y4.2.2.2.2.1 (Int.toNat y10.1) (Zb,((0:Int),(([]:List Int),(0:Int))));let v50:=Max.max v49.2.1 (-v49.2.1);cond (decide (y10.1 < ((v5:Nat):Int))) (((0:Int)≤y10.1∧y10.1 < ((v5:Nat):Int))∧(Int.toNat y10.1 < v5∧(Zw IntKind.i64 (-v49.2.1)∧((((List.length y10.2+List.length [v50])*8)≤140737488355328∧(List.length y10.2+List.length [v50])≤9223372036854775807)∧(Zw IntKind.i64 (y10.1+(1:Int))∧R10 ((y10.1+(1:Int)),(y10.2++[v50]))))))) (ZG.pre (y10.2,())∧cond ((ZG.fn (y10.2,())).2 != (0:Int)) (((!((3:Int) != (0:Int)))=true→((!((3:Int) != (0:Int)))=true∧True))∧((((3:Int) != (0:Int))=false→(!((3:Int) != (0:Int)))=true)∧Q (([]:List (List (Zc))),(3:Int)))) (Lp (σ:=Int×(List Int)×List ((Zc)×Int×(List Int)×Int)) (fun y12 R12=>let v52:=List.getD y12.2.2 (Int.toNat y12.1) (Zb,((0:Int),(([]:List Int),(0:Int))));let v53:=Max.max v52.2.1 (-v52.2.1);let v54:=Int.tdiv ((ZG.fn (y10.2,())).1) v53;let v55:=List.length ([(v52.1.2.1*v54)]);let v57:=List.set y12.2.2 (Int.toNat y12.1) ((v52.1.1,((v52.1.2.1*v54),(([]:List Int),(0:Int)))),((v52.2.1*v54),(ZE.fn (v54,(v52.2.2,((0:Int),(v52.2.2,())))))));let v58:=ZG.fn (y12.2.1,());cond (decide (y12.1 < ((v5:Nat):Int))) (((0:Int)≤y12.1∧y12.1 < ((List.length y12.2.2:Nat):Int))∧(Int.toNat y12.1 < List.length y12.2.2∧(Zw IntKind.i64 (-v52.2.1)∧((v53≠(0:Int)∧Zw IntKind.i64 v54)∧(Zw IntKind.i64 (v52.1.2.1*v54)∧(Zw IntKind.i64 (v52.2.1*v54)∧(ZE.pre (v54,(v52.2.2,((0:Int),(v52.2.2,()))))∧(((0:Int)≤y12.1∧y12.1 < ((List.length y12.2.2:Nat):Int))∧(Int.toNat y12.1 < List.length y12.2.2∧cond (v52.1.1 == (2:Int)) (Zw IntKind.i64 (v52.1.2.1*v54)∧((((List.length y12.2.1+v55)*8)≤140737488355328∧(List.length y12.2.1+v55)≤9223372036854775807)∧(Zw IntKind.i64 (y12.1+(1:Int))∧R12 ((y12.1+(1:Int)),((y12.2.1++[(v52.1.2.1*v54)]),v57))))) (Zw IntKind.i64 (y12.1+(1:Int))∧R12 ((y12.1+(1:Int)),(y12.2.1,v57)))))))))))) (ZG.pre (y12.2.1,())∧cond (v58.2 != (0:Int)) (((!((3:Int) != (0:Int)))=true→((!((3:Int) != (0:Int)))=true∧True))∧((((3:Int) != (0:Int))=false→(!((3:Int) != (0:Int)))=true)∧Q (([]:List (List (Zc))),(3:Int)))) (((!(((v10:Nat):Int) == (0:Int)))=true→((!(((v10:Nat):Int) == (0:Int)))=true∧True))∧(((!(((v10:Nat):Int) == (0:Int)))=true→((!(((v10:Nat):Int) == (0:Int)))=true∧True))∧(((!(((v10:Nat):Int) == (0:Int)))=true→((!(((v10:Nat):Int) == (0:Int)))=true∧True))∧(((((v10:Nat):Int) == (0:Int))=false→(!(((v10:Nat):Int) == (0:Int)))=true)∧cond ((((v10:Nat):Int) == (0:Int))||(((v11:Nat):Int) == (0:Int))) (Lp (σ:=Int×(List (List (Zc)))×(ByteArray→Option Bool)) (fun y14 R14=>let v59:=Zj.fn ((y4.2.1,(y4.2.2.2.1,(y12.2.2,(y4.2.2.1,(y4.2.2.2.2.2.2.1,(y4.2.2.2.2.2.2.2,y4.2.2.2.2.2.1)))))),((ZG.fn (y10.2,())).1,((v27,y14.1),(false,()))));let v60:=Zn.fn ((Za.fn (v59,())).1,());let v62:=[(Za.fn (v59,())).1];cond (decide (y14.1 < v58.1)) (((0:Int)≤y4.2.1∧(y4.2.1≤y4.2.1∧((y4.2.1*((8:Nat):Int))≤(140737488355328:Int)∧y4.2.1≤(9223372036854775807:Int))))∧(Zj.pre ((y4.2.1,(y4.2.2.2.1,(y12.2.2,(y4.2.2.1,(y4.2.2.2.2.2.2.1,(y4.2.2.2.2.2.2.2,y4.2.2.2.2.2.1)))))),((ZG.fn (y10.2,())).1,((v27,y14.1),(false,()))))∧(Za.pre (v59,())∧cond (((Za.fn (v59,())).2).2 != (0:Int)) (((!((0:Int) != (0:Int)))=true→((!((0:Int) != (0:Int)))=true∧True))∧((((0:Int) != (0:Int))=false→(!((0:Int) != (0:Int)))=true)∧cond (((0:Int) != (0:Int))||(((Za.fn (v59,())).2).2 != (0:Int))) (Q (([]:List (List (Zc))),(3:Int))) (Q (([]:List (List (Zc))),(0:Int))))) (((!(((Za.fn (v59,())).2).1))=true→((!(((Za.fn (v59,())).2).1))=true∧Zn.pre ((Za.fn (v59,())).1,())))∧(((!(((Za.fn (v59,())).2).1))=true→((!(((Za.fn (v59,())).2).1))=true∧((!(((Za.fn (v59,())).2).1))=true∧True)))∧((((Za.fn (v59,())).2).1=false→(!(((Za.fn (v59,())).2).1))=true)∧cond (((Za.fn (v59,())).2).1||(Option.getD (y14.2.2 v60) false)) (Zw IntKind.i64 (y14.1+(1:Int))∧R14 ((y14.1+(1:Int)),y14.2)) (Zn.pre ((Za.fn (v59,())).1,())∧((((List.length y14.2.1+List.length v62)*24)≤140737488355328∧(List.length y14.2.1+List.length v62)≤9223372036854775807)∧cond (decide ((400:Int) < (((List.length (y14.2.1++v62)):Nat):Int))) (((!((0:Int) != (0:Int)))=true→((!((0:Int) != (0:Int)))=true∧True))∧((((0:Int) != (0:Int))=false→(!((0:Int) != (0:Int)))=true)∧Q (([]:List (List (Zc))),(3:Int)))) (Zw IntKind.i64 (y14.1+(1:Int))∧R14 ((y14.1+(1:Int)),((y14.2.1++v62),Zc6 y14.2.2 v60 true))))))))))) (((!((0:Int) != (0:Int)))=true→((!((0:Int) != (0:Int)))=true∧True))∧((((0:Int) != (0:Int))=false→(!((0:Int) != (0:Int)))=true)∧Q (y14.2.1,(0:Int))))) ((0:Int),(([]:List (List (Zc))),fun (a14:ByteArray)=>(none:Option Bool)))) (Lp (σ:=Int×(List (List (Zc)))×(ByteArray→Option Bool)) (fun y14 R14=>let v64:=List.getD y12.2.2 (Int.toNat y14.1) (Zb,((0:Int),(([]:List Int),(0:Int))));let v65:=ZE.fn ((-(1:Int)),(v64.2.2,((0:Int),(v64.2.2,()))));cond (decide (y14.1 < ((List.length y12.2.2:Nat):Int))) (((0:Int)≤y14.1∧y14.1 < ((List.length y12.2.2:Nat):Int))∧(((!(v64.1.1 == (2:Int)))=true→((!(v64.1.1 == (2:Int)))=true∧True))∧(((!(v64.1.1 == (2:Int)))=true→((!(v64.1.1 == (2:Int)))=true∧True))∧(((!(v64.1.1 == (2:Int)))=true→((!(v64.1.1 == (2:Int)))=true∧((!(v64.1.1 == (2:Int)))=true∧True)))∧(((v64.1.1 == (2:Int))=false→(!(v64.1.1 == (2:Int)))=true)∧cond ((v64.1.1 == (2:Int))||(decide ((0:Int) < v64.2.1) != decide (((v10:Nat):Int)≤((v11:Nat):Int)))) (Zw IntKind.i64 (y14.1+(1:Int))∧R14 ((y14.1+(1:Int)),y14.2)) (Lp (σ:=Int×(List (List (Zc)))×(ByteArray→Option Bool)) (fun y16 R16=>let v66:=ZY.fn (v64.2.2,((-y16.1),()));let v67:=Zj.fn ((y4.2.1,(y4.2.2.2.1,(y12.2.2,(y4.2.2.1,(y4.2.2.2.2.2.2.1,(y4.2.2.2.2.2.2.2,y4.2.2.2.2.2.1)))))),((ZG.fn (y10.2,())).1,(v66,(true,()))));let v68:=Zn.fn ((Za.fn (v67,())).1,());let v70:=[(Za.fn (v67,())).1];let v72:=ZY.fn (v65,(y16.1,()));let v73:=Zj.fn ((y4.2.1,(y4.2.2.2.1,(y12.2.2,(y4.2.2.1,(y4.2.2.2.2.2.2.1,(y4.2.2.2.2.2.2.2,y4.2.2.2.2.2.1)))))),((ZG.fn (y10.2,())).1,(v72,(true,()))));let v74:=Zn.fn ((Za.fn (v73,())).1,());let v76:=[(Za.fn (v73,())).1];cond (decide (y16.1 < v58.1)) (ZE.pre ((-(1:Int)),(v64.2.2,((0:Int),(v64.2.2,()))))∧(ZY.pre (v65,(y16.1,()))∧cond (!(decide (((v10:Nat):Int)≤((v11:Nat):Int)))) (Zw IntKind.i64 (-y16.1)∧(ZY.pre (v64.2.2,((-y16.1),()))∧(Zj.pre ((y4.2.1,(y4.2.2.2.1,(y12.2.2,(y4.2.2.1,(y4.2.2.2.2.2.2.1,(y4.2.2.2.2.2.2.2,y4.2.2.2.2.2.1)))))),((ZG.fn (y10.2,())).1,(v66,(true,()))))∧(Za.pre (v67,())∧cond (((Za.fn (v67,())).2).2 != (0:Int)) (((!((0:Int) != (0:Int)))=true→((!((0:Int) != (0:Int)))=true∧True))∧((((0:Int) != (0:Int))=false→(!((0:Int) != (0:Int)))=true)∧cond (((0:Int) != (0:Int))||(((Za.fn (v67,())).2).2 != (0:Int))) (Q (([]:List (List (Zc))),(3:Int))) (Q (([]:List (List (Zc))),(0:Int))))) (((!(((Za.fn (v67,())).2).1))=true→((!(((Za.fn (v67,())).2).1))=true∧Zn.pre ((Za.fn (v67,())).1,())))∧(((!(((Za.fn (v67,())).2).1))=true→((!(((Za.fn (v67,())).2).1))=true∧((!(((Za.fn (v67,())).2).1))=true∧True)))∧((((Za.fn (v67,())).2).1=false→(!(((Za.fn (v67,())).2).1))=true)∧cond (((Za.fn (v67,())).2).1||(Option.getD (y16.2.2 v68) false)) (Zw IntKind.i64 (y16.1+(1:Int))∧R16 ((y16.1+(1:Int)),y16.2)) (Zn.pre ((Za.fn (v67,())).1,())∧((((List.length y16.2.1+List.length v70)*24)≤140737488355328∧(List.length y16.2.1+List.length v70)≤9223372036854775807)∧cond (decide ((400:Int) < (((List.length (y16.2.1++v70)):Nat):Int))) (((!((0:Int) != (0:Int)))=true→((!((0:Int) != (0:Int)))=true∧True))∧((((0:Int) != (0:Int))=false→(!((0:Int) != (0:Int)))=true)∧Q (([]:List (List (Zc))),(3:Int)))) (Zw IntKind.i64 (y16.1+(1:Int))∧R16 ((y16.1+(1:Int)),((y16.2.1++v70),Zc6 y16.2.2 v68 true)))))))))))) (Zj.pre ((y4.2.1,(y4.2.2.2.1,(y12.2.2,(y4.2.2.1,(y4.2.2.2.2.2.2.1,(y4.2.2.2.2.2.2.2,y4.2.2.2.2.2.1)))))),((ZG.fn (y10.2,())).1,(v72,(true,()))))∧(Za.pre (v73,())∧cond (((Za.fn (v73,())).2).2 != (0:Int)) (((!((0:Int) != (0:Int)))=true→((!((0:Int) != (0:Int)))=true∧True))∧((((0:Int) != (0:Int))=false→(!((0:Int) != (0:Int)))=true)∧cond (((0:Int) != (0:Int))||(((Za.fn (v73,())).2).2 != (0:Int))) (Q (([]:List (List (Zc))),(3:Int))) (Q (([]:List (List (Zc))),(0:Int))))) (((!(((Za.fn (v73,())).2).1))=true→((!(((Za.fn (v73,())).2).1))=true∧Zn.pre ((Za.fn (v73,())).1,())))∧(((!(((Za.fn (v73,())).2).1))=true→((!(((Za.fn (v73,())).2).1))=true∧((!(((Za.fn (v73,())).2).1))=true∧True)))∧((((Za.fn (v73,())).2).1=false→(!(((Za.fn (v73,())).2).1))=true)∧cond (((Za.fn (v73,())).2).1||(Option.getD (y16.2.2 v74) false)) (Zw IntKind.i64 (y16.1+(1:Int))∧R16 ((y16.1+(1:Int)),y16.2)) (Zn.pre ((Za.fn (v73,())).1,())∧((((List.length y16.2.1+List.length v76)*24)≤140737488355328∧(List.length y16.2.1+List.length v76)≤9223372036854775807)∧cond (decide ((400:Int) < (((List.length (y16.2.1++v76)):Nat):Int))) (((!((0:Int) != (0:Int)))=true→((!((0:Int) != (0:Int)))=true∧True))∧((((0:Int) != (0:Int))=false→(!((0:Int) != (0:Int)))=true)∧Q (([]:List (List (Zc))),(3:Int)))) (Zw IntKind.i64 (y16.1+(1:Int))∧R16 ((y16.1+(1:Int)),((y16.2.1++v76),Zc6 y16.2.2 v74 true)))))))))))) (Zw IntKind.i64 (y14.1+(1:Int))∧R14 ((y14.1+(1:Int)),y16.2))) ((0:Int),y14.2))))))) (((!((0:Int) != (0:Int)))=true→((!((0:Int) != (0:Int)))=true∧True))∧((((0:Int) != (0:Int))=false→(!((0:Int) != (0:Int)))=true)∧Q (y14.2.1,(0:Int))))) ((0:Int),(([]:List (List (Zc))),fun (a14:ByteArray)=>(none:Option Bool)))))))))) ((0:Int),(([(ZG.fn (y10.2,())).1]),y4.2.2.2.2.1))))) ((0:Int),([]:List Int))) (Zw IntKind.i64 (y8+(1:Int))∧R8 (y8+(1:Int))))))) (Zw IntKind.i64 (y6+(1:Int))∧R6 (y6+(1:Int)))) (0:Int)) (Zo.pre ((y4.2.1,(y4.2.2.2.1,(y4.2.2.2.2.1,(y4.2.2.1,(y4.2.2.2.2.2.2.1,(y4.2.2.2.2.2.2.2,y4.2.2.2.2.2.1)))))),())∧Lp (σ:=Int×(List (List (Zc)))×(ByteArray→Option Bool)) (fun y8 R8=>let v79:=List.getD v78 (Int.toNat y8.1) ([]:List (Zc));let v80:=Zn.fn ((Za.fn (v79,())).1,());let v82:=[(Za.fn (v79,())).1];cond (decide (y8.1 < ((List.length v78:Nat):Int))) (((0:Int)≤y8.1∧y8.1 < ((List.length v78:Nat):Int))∧(Za.pre (v79,())∧cond (((Za.fn (v79,())).2).2 != (0:Int)) (((!((0:Int) != (0:Int)))=true→((!((0:Int) != (0:Int)))=true∧True))∧((((0:Int) != (0:Int))=false→(!((0:Int) != (0:Int)))=true)∧cond (((0:Int) != (0:Int))||(((Za.fn (v79,())).2).2 != (0:Int))) (Q (([]:List (List (Zc))),(3:Int))) (Q (([]:List (List (Zc))),(0:Int))))) (((!(((Za.fn (v79,())).2).1))=true→((!(((Za.fn (v79,())).2).1))=true∧Zn.pre ((Za.fn (v79,())).1,())))∧(((!(((Za.fn (v79,())).2).1))=true→((!(((Za.fn (v79,())).2).1))=true∧((!(((Za.fn (v79,())).2).1))=true∧True)))∧((((Za.fn (v79,())).2).1=false→(!(((Za.fn (v79,())).2).1))=true)∧cond (((Za.fn (v79,())).2).1||(Option.getD (y8.2.2 v80) false)) (Zw IntKind.i64 (y8.1+(1:Int))∧R8 ((y8.1+(1:Int)),y8.2)) (Zn.pre ((Za.fn (v79,())).1,())∧((((List.length y8.2.1+List.length v82)*24)≤140737488355328∧(List.length y8.2.1+List.length v82)≤9223372036854775807)∧cond (decide ((400:Int) < (((List.length (y8.2.1++v82)):Nat):Int))) (((!((0:Int) != (0:Int)))=true→((!((0:Int) != (0:Int)))=true∧True))∧((((0:Int) != (0:Int))=false→(!((0:Int) != (0:Int)))=true)∧Q (([]:List (List (Zc))),(3:Int)))) (Zw IntKind.i64 (y8.1+(1:Int))∧R8 ((y8.1+(1:Int)),((y8.2.1++v82),Zc6 y8.2.2 v80 true)))))))))) (((!((0:Int) != (0:Int)))=true→((!((0:Int) != (0:Int)))=true∧True))∧((((0:Int) != (0:Int))=false→(!((0:Int) != (0:Int)))=true)∧Q (y8.2.1,(0:Int))))) ((0:Int),(([]:List (List (Zc))),fun (a8:ByteArray)=>(none:Option Bool))))) (0:Int))))) ((0:Int),((x1 - (1:Int)),((-(1:Int)),(([]:List (Zc)),(([]:List ((Zc)×Int×(List Int)×Int)),(([]:List ((Zc)×Int×(List Int)×Int)),(([]:List ((Zc)×Int×(List Int)×Int)),([]:List ((Zc)×Int×(List Int)×Int))))))))))
def Zd9 (n:Int) (oth:List Zc) (parts:List Part) (e:Int) (lows ups divs:List Part) (Q:(List (List Zc))×Int→Prop):Prop:=let v5:=List.length parts;let v10:=List.length lows;let v11:=List.length ups;let v27:=List.replicate (Int.toNat n) (0:Int);Lp (σ:=Int×List Int) (fun y6 R6=>let v18:=List.getD parts (Int.toNat y6.1) (Zb,((0:Int),(([]:List Int),(0:Int))));let v19:=Max.max v18.2.1 (-v18.2.1);cond (decide (y6.1 < ((v5:Nat):Int))) (((0:Int)≤y6.1∧y6.1 < ((v5:Nat):Int))∧(Int.toNat y6.1 < v5∧(Zw IntKind.i64 (-v18.2.1)∧((((List.length y6.2+List.length [v19])*8)≤140737488355328∧(List.length y6.2+List.length [v19])≤9223372036854775807)∧(Zw IntKind.i64 (y6.1+(1:Int))∧R6 ((y6.1+(1:Int)),(y6.2++[v19]))))))) (ZG.pre (y6.2,())∧cond ((ZG.fn (y6.2,())).2 != (0:Int)) (((!((3:Int) != (0:Int)))=true→((!((3:Int) != (0:Int)))=true∧True))∧((((3:Int) != (0:Int))=false→(!((3:Int) != (0:Int)))=true)∧Q (([]:List (List (Zc))),(3:Int)))) (Lp (σ:=Int×(List Int)×List ((Zc)×Int×(List Int)×Int)) (fun y8 R8=>let v21:=List.getD y8.2.2 (Int.toNat y8.1) (Zb,((0:Int),(([]:List Int),(0:Int))));let v22:=Max.max v21.2.1 (-v21.2.1);let v23:=Int.tdiv ((ZG.fn (y6.2,())).1) v22;let v24:=List.length ([(v21.1.2.1*v23)]);let v26:=List.set y8.2.2 (Int.toNat y8.1) ((v21.1.1,((v21.1.2.1*v23),(([]:List Int),(0:Int)))),((v21.2.1*v23),(ZE.fn (v23,(v21.2.2,((0:Int),(v21.2.2,())))))));cond (decide (y8.1 < ((v5:Nat):Int))) (((0:Int)≤y8.1∧y8.1 < ((List.length y8.2.2:Nat):Int))∧(Int.toNat y8.1 < List.length y8.2.2∧(Zw IntKind.i64 (-v21.2.1)∧((v22≠(0:Int)∧Zw IntKind.i64 v23)∧(Zw IntKind.i64 (v21.1.2.1*v23)∧(Zw IntKind.i64 (v21.2.1*v23)∧(ZE.pre (v23,(v21.2.2,((0:Int),(v21.2.2,()))))∧(((0:Int)≤y8.1∧y8.1 < ((List.length y8.2.2:Nat):Int))∧(Int.toNat y8.1 < List.length y8.2.2∧cond (v21.1.1 == (2:Int)) (Zw IntKind.i64 (v21.1.2.1*v23)∧((((List.length y8.2.1+v24)*8)≤140737488355328∧(List.length y8.2.1+v24)≤9223372036854775807)∧(Zw IntKind.i64 (y8.1+(1:Int))∧R8 ((y8.1+(1:Int)),((y8.2.1++[(v21.1.2.1*v23)]),v26))))) (Zw IntKind.i64 (y8.1+(1:Int))∧R8 ((y8.1+(1:Int)),(y8.2.1,v26)))))))))))) (ZG.pre (y8.2.1,())∧cond ((ZG.fn (y8.2.1,())).2 != (0:Int)) (((!((3:Int) != (0:Int)))=true→((!((3:Int) != (0:Int)))=true∧True))∧((((3:Int) != (0:Int))=false→(!((3:Int) != (0:Int)))=true)∧Q (([]:List (List (Zc))),(3:Int)))) (((!(((v10:Nat):Int) == (0:Int)))=true→((!(((v10:Nat):Int) == (0:Int)))=true∧True))∧(((!(((v10:Nat):Int) == (0:Int)))=true→((!(((v10:Nat):Int) == (0:Int)))=true∧True))∧(((!(((v10:Nat):Int) == (0:Int)))=true→((!(((v10:Nat):Int) == (0:Int)))=true∧True))∧(((((v10:Nat):Int) == (0:Int))=false→(!(((v10:Nat):Int) == (0:Int)))=true)∧cond ((((v10:Nat):Int) == (0:Int))||(((v11:Nat):Int) == (0:Int))) (Lp (σ:=Int×(List (List (Zc)))×(ByteArray→Option Bool)) (fun y10 R10=>let v28:=Zj.fn ((n,(oth,(y8.2.2,(e,(lows,(ups,divs)))))),((ZG.fn (y6.2,())).1,((v27,y10.1),(false,()))));let v29:=Zn.fn ((Za.fn (v28,())).1,());let v31:=[(Za.fn (v28,())).1];cond (decide (y10.1 < (ZG.fn (y8.2.1,())).1)) (((0:Int)≤n∧(n≤n∧((n*((8:Nat):Int))≤(140737488355328:Int)∧n≤(9223372036854775807:Int))))∧(Zj.pre ((n,(oth,(y8.2.2,(e,(lows,(ups,divs)))))),((ZG.fn (y6.2,())).1,((v27,y10.1),(false,()))))∧(Za.pre (v28,())∧cond (((Za.fn (v28,())).2).2 != (0:Int)) (((!((0:Int) != (0:Int)))=true→((!((0:Int) != (0:Int)))=true∧True))∧((((0:Int) != (0:Int))=false→(!((0:Int) != (0:Int)))=true)∧cond (((0:Int) != (0:Int))||(((Za.fn (v28,())).2).2 != (0:Int))) (Q (([]:List (List (Zc))),(3:Int))) (Q (([]:List (List (Zc))),(0:Int))))) (((!(((Za.fn (v28,())).2).1))=true→((!(((Za.fn (v28,())).2).1))=true∧Zn.pre ((Za.fn (v28,())).1,())))∧(((!(((Za.fn (v28,())).2).1))=true→((!(((Za.fn (v28,())).2).1))=true∧((!(((Za.fn (v28,())).2).1))=true∧True)))∧((((Za.fn (v28,())).2).1=false→(!(((Za.fn (v28,())).2).1))=true)∧cond (((Za.fn (v28,())).2).1||(Option.getD (y10.2.2 v29) false)) (Zw IntKind.i64 (y10.1+(1:Int))∧R10 ((y10.1+(1:Int)),y10.2)) (Zn.pre ((Za.fn (v28,())).1,())∧((((List.length y10.2.1+List.length v31)*24)≤140737488355328∧(List.length y10.2.1+List.length v31)≤9223372036854775807)∧cond (decide ((400:Int) < (((List.length (y10.2.1++v31)):Nat):Int))) (((!((0:Int) != (0:Int)))=true→((!((0:Int) != (0:Int)))=true∧True))∧((((0:Int) != (0:Int))=false→(!((0:Int) != (0:Int)))=true)∧Q (([]:List (List (Zc))),(3:Int)))) (Zw IntKind.i64 (y10.1+(1:Int))∧R10 ((y10.1+(1:Int)),((y10.2.1++v31),Zc6 y10.2.2 v29 true))))))))))) (((!((0:Int) != (0:Int)))=true→((!((0:Int) != (0:Int)))=true∧True))∧((((0:Int) != (0:Int))=false→(!((0:Int) != (0:Int)))=true)∧Q (y10.2.1,(0:Int))))) ((0:Int),(([]:List (List (Zc))),fun (a10:ByteArray)=>(none:Option Bool)))) (Lp (σ:=Int×(List (List (Zc)))×(ByteArray→Option Bool)) (fun y10 R10=>let v33:=List.getD y8.2.2 (Int.toNat y10.1) (Zb,((0:Int),(([]:List Int),(0:Int))));let v34:=ZE.fn ((-(1:Int)),(v33.2.2,((0:Int),(v33.2.2,()))));cond (decide (y10.1 < ((List.length y8.2.2:Nat):Int))) (((0:Int)≤y10.1∧y10.1 < ((List.length y8.2.2:Nat):Int))∧(((!(v33.1.1 == (2:Int)))=true→((!(v33.1.1 == (2:Int)))=true∧True))∧(((!(v33.1.1 == (2:Int)))=true→((!(v33.1.1 == (2:Int)))=true∧True))∧(((!(v33.1.1 == (2:Int)))=true→((!(v33.1.1 == (2:Int)))=true∧((!(v33.1.1 == (2:Int)))=true∧True)))∧(((v33.1.1 == (2:Int))=false→(!(v33.1.1 == (2:Int)))=true)∧cond ((v33.1.1 == (2:Int))||(decide ((0:Int) < v33.2.1) != decide (((v10:Nat):Int)≤((v11:Nat):Int)))) (Zw IntKind.i64 (y10.1+(1:Int))∧R10 ((y10.1+(1:Int)),y10.2)) (Lp (σ:=Int×(List (List (Zc)))×(ByteArray→Option Bool)) (fun y12 R12=>let v35:=ZY.fn (v33.2.2,((-y12.1),()));let v36:=Zj.fn ((n,(oth,(y8.2.2,(e,(lows,(ups,divs)))))),((ZG.fn (y6.2,())).1,(v35,(true,()))));let v37:=Zn.fn ((Za.fn (v36,())).1,());let v39:=[(Za.fn (v36,())).1];let v41:=ZY.fn (v34,(y12.1,()));let v42:=Zj.fn ((n,(oth,(y8.2.2,(e,(lows,(ups,divs)))))),((ZG.fn (y6.2,())).1,(v41,(true,()))));let v43:=Zn.fn ((Za.fn (v42,())).1,());let v45:=[(Za.fn (v42,())).1];cond (decide (y12.1 < (ZG.fn (y8.2.1,())).1)) (ZE.pre ((-(1:Int)),(v33.2.2,((0:Int),(v33.2.2,()))))∧(ZY.pre (v34,(y12.1,()))∧cond (!(decide (((v10:Nat):Int)≤((v11:Nat):Int)))) (Zw IntKind.i64 (-y12.1)∧(ZY.pre (v33.2.2,((-y12.1),()))∧(Zj.pre ((n,(oth,(y8.2.2,(e,(lows,(ups,divs)))))),((ZG.fn (y6.2,())).1,(v35,(true,()))))∧(Za.pre (v36,())∧cond (((Za.fn (v36,())).2).2 != (0:Int)) (((!((0:Int) != (0:Int)))=true→((!((0:Int) != (0:Int)))=true∧True))∧((((0:Int) != (0:Int))=false→(!((0:Int) != (0:Int)))=true)∧cond (((0:Int) != (0:Int))||(((Za.fn (v36,())).2).2 != (0:Int))) (Q (([]:List (List (Zc))),(3:Int))) (Q (([]:List (List (Zc))),(0:Int))))) (((!(((Za.fn (v36,())).2).1))=true→((!(((Za.fn (v36,())).2).1))=true∧Zn.pre ((Za.fn (v36,())).1,())))∧(((!(((Za.fn (v36,())).2).1))=true→((!(((Za.fn (v36,())).2).1))=true∧((!(((Za.fn (v36,())).2).1))=true∧True)))∧((((Za.fn (v36,())).2).1=false→(!(((Za.fn (v36,())).2).1))=true)∧cond (((Za.fn (v36,())).2).1||(Option.getD (y12.2.2 v37) false)) (Zw IntKind.i64 (y12.1+(1:Int))∧R12 ((y12.1+(1:Int)),y12.2)) (Zn.pre ((Za.fn (v36,())).1,())∧((((List.length y12.2.1+List.length v39)*24)≤140737488355328∧(List.length y12.2.1+List.length v39)≤9223372036854775807)∧cond (decide ((400:Int) < (((List.length (y12.2.1++v39)):Nat):Int))) (((!((0:Int) != (0:Int)))=true→((!((0:Int) != (0:Int)))=true∧True))∧((((0:Int) != (0:Int))=false→(!((0:Int) != (0:Int)))=true)∧Q (([]:List (List (Zc))),(3:Int)))) (Zw IntKind.i64 (y12.1+(1:Int))∧R12 ((y12.1+(1:Int)),((y12.2.1++v39),Zc6 y12.2.2 v37 true)))))))))))) (Zj.pre ((n,(oth,(y8.2.2,(e,(lows,(ups,divs)))))),((ZG.fn (y6.2,())).1,(v41,(true,()))))∧(Za.pre (v42,())∧cond (((Za.fn (v42,())).2).2 != (0:Int)) (((!((0:Int) != (0:Int)))=true→((!((0:Int) != (0:Int)))=true∧True))∧((((0:Int) != (0:Int))=false→(!((0:Int) != (0:Int)))=true)∧cond (((0:Int) != (0:Int))||(((Za.fn (v42,())).2).2 != (0:Int))) (Q (([]:List (List (Zc))),(3:Int))) (Q (([]:List (List (Zc))),(0:Int))))) (((!(((Za.fn (v42,())).2).1))=true→((!(((Za.fn (v42,())).2).1))=true∧Zn.pre ((Za.fn (v42,())).1,())))∧(((!(((Za.fn (v42,())).2).1))=true→((!(((Za.fn (v42,())).2).1))=true∧((!(((Za.fn (v42,())).2).1))=true∧True)))∧((((Za.fn (v42,())).2).1=false→(!(((Za.fn (v42,())).2).1))=true)∧cond (((Za.fn (v42,())).2).1||(Option.getD (y12.2.2 v43) false)) (Zw IntKind.i64 (y12.1+(1:Int))∧R12 ((y12.1+(1:Int)),y12.2)) (Zn.pre ((Za.fn (v42,())).1,())∧((((List.length y12.2.1+List.length v45)*24)≤140737488355328∧(List.length y12.2.1+List.length v45)≤9223372036854775807)∧cond (decide ((400:Int) < (((List.length (y12.2.1++v45)):Nat):Int))) (((!((0:Int) != (0:Int)))=true→((!((0:Int) != (0:Int)))=true∧True))∧((((0:Int) != (0:Int))=false→(!((0:Int) != (0:Int)))=true)∧Q (([]:List (List (Zc))),(3:Int)))) (Zw IntKind.i64 (y12.1+(1:Int))∧R12 ((y12.1+(1:Int)),((y12.2.1++v45),Zc6 y12.2.2 v43 true)))))))))))) (Zw IntKind.i64 (y10.1+(1:Int))∧R10 ((y10.1+(1:Int)),y12.2))) ((0:Int),y10.2))))))) (((!((0:Int) != (0:Int)))=true→((!((0:Int) != (0:Int)))=true∧True))∧((((0:Int) != (0:Int))=false→(!((0:Int) != (0:Int)))=true)∧Q (y10.2.1,(0:Int))))) ((0:Int),(([]:List (List (Zc))),fun (a10:ByteArray)=>(none:Option Bool)))))))))) ((0:Int),(([(ZG.fn (y6.2,())).1]),parts))))) ((0:Int),([]:List Int))
end Go.Proofs.YtgpdnmfpgkkgcaaGreatDoor
namespace Go.Proofs.YtgpdnmfpgkkgcaaGreatDoor
open Go
set_option linter.unusedVariables false
theorem ZhY {β:Type} {d:β} {n j:Nat} {f:Nat→β} (h:j < n):((List.range n).map f).getD j d=f j:=by
 rw [List.getD_eq_getElem?_getD,List.getElem?_map,List.getElem?_range h];rfl
theorem Zrv {β:Type} {n j:Nat} {f g:Nat→β} (h:∀ i,i≠j→f i=g i):((List.range n).map f).set j (g j)=(List.range n).map g:=by
 apply List.ext_getElem (by simp)
 intro i h1 h2
 simp only [List.getElem_set,List.getElem_map,List.getElem_range]
 split
 ·rename_i e;rw [e]
 ·rename_i e;exact h i (fun e'=>e e'.symm)
theorem ZlX {α β:Type} (d:α) (l:List α) (f:α→β):(List.range l.length).map (fun i=>f (l.getD i d))=l.map f:=by
 apply List.ext_getElem (by simp)
 intro i h1 h2
 simp only [List.getElem_map,List.getElem_range]
 rw [ZT (by simpa using h2)]
theorem Zf4 {α τ:Type} (f:α→Bool) (g:τ→α→Option τ):∀ (l:List α) (a:τ),l.foldlM (fun t x=>if f x=true then g t x else some t) a=(l.filter f).foldlM g a
 | [],a=>rfl
 | x::l,a=>by
   rw [List.foldlM_cons]
   by_cases h:f x=true
   ·rw [if_pos h,List.filter_cons_of_pos h,List.foldlM_cons]
    cases g a x with
    | none=>rfl
    | some t=>exact Zf4 f g l t
   ·rw [if_neg h,List.filter_cons_of_neg h]
    exact Zf4 f g l a
theorem ZeO {α β τ:Type} (f:α→List β) (g:τ→β→Option τ):∀ (l:List α) (a:τ),(l.flatMap f).foldlM g a=l.foldlM (fun t x=>(f x).foldlM g t) a
 | [],a=>rfl
 | x::l,a=>by
   rw [List.flatMap_cons,List.foldlM_append,List.foldlM_cons]
   cases (f x).foldlM g a with
   | none=>rfl
   | some t=>exact ZeO f g l t
def ZgV (v:Nat) (l:Int) (c:Zc):Part:=((c.1,c.2.1*ZbV v l c,[],0),Zi v c*ZbV v l c,Zd4 (ZbV v l c) (ZeG v c) 0 (ZeG v c))
theorem ZfB (v:Nat) (l:Int) (c:Zc):(ZgV v l c).2.2=ZiV v l c:=by unfold ZgV;simp only [ZdW];rfl
theorem ZtO {a l:Int} (h0:a≠0) (hl:l.tdiv (Zbo a)*Zbo a=l) (h1:1≤l):(a*l.tdiv (Zbo a)).tdiv l=Zo6 a:=by
 have e:a*l.tdiv (Zbo a)=Zo6 a*l:=by
  by_cases h:a < 0
  ·have ha:Zbo a=-a:=by unfold Zbo;omega
   rw [ha] at hl ⊢
   unfold Zo6
   rw [if_pos h,← Int.neg_inj,show -(-1*l)=l by omega,← Int.neg_mul,Int.mul_comm];exact hl
  ·have ha:Zbo a=a:=by unfold Zbo;omega
   rw [ha] at hl ⊢
   unfold Zo6
   rw [if_neg h,Int.one_mul,Int.mul_comm];exact hl
 rw [e,Int.mul_tdiv_cancel _ (by omega)]
theorem Zh5 {a f:Int} (hf:1≤f):0 < a*f↔0 < a:=by
 constructor
 ·intro h
  apply Classical.byContradiction
  intro hn
  have:=Int.mul_nonpos_of_nonpos_of_nonneg (show a≤0 by omega) (show 0≤f by omega)
  omega
 ·exact fun h=>Int.mul_pos h (by omega)
section
variable {p:List Zc} {N V:Nat}
theorem Zgq (hN:pieceN p (N:Int)) (hV:V < N) {c:Zc} (hc:c∈p):Zoy (N - 1) (ZaB V c):=by
 have hcn:=hN.c hc
 have hr:=Zcs hcn (v:=V) (by omega)
 have hn12:=hN.2.2.2
 exact ⟨Zmb hcn.1,ZdO hcn.1 V,hr.small (by omega) (by omega),hr.1⟩
theorem Zs8 (hN:pieceN p (N:Int)) (hV:V < N) (hl0:(Zbz V p).2=0) {c:Zc} (hc:c∈Zz V p):Zoy (N - 1) (ZgV V (Zbz V p).1 c):=by
 have hcp:=Zbw.1 hc
 have hcn:=hN.c hcp.1
 obtain ⟨f0,f1,f2,f3⟩:=Zgi hl0 hc
 obtain ⟨_,l1,l2⟩:=Zgn hl0
 have hs:=ZjI hcn (v:=V) (by omega) ⟨f1,f2⟩
 have hmed:=Zrr hcn (v:=V) (by omega) hN.2.2.2 ⟨f1,f2⟩ hcp.2
 have hn12:=hN.2.2.2
 have habs:Zbo (Zi V c*ZbV V (Zbz V p).1 c)=(Zbz V p).1:=by
  refine Eq.trans ?_ f0
  by_cases h:Zi V c < 0
  ·have h1:=Int.mul_neg_of_neg_of_pos h (show 0 < ZbV V (Zbz V p).1 c by omega)
   have e1:Zbo (Zi V c*ZbV V (Zbz V p).1 c)=-(Zi V c*ZbV V (Zbz V p).1 c):=by unfold Zbo;omega
   have e2:Zbo (Zi V c)=-Zi V c:=by unfold Zbo;omega
   rw [e1,e2,Int.mul_neg,Int.mul_comm]
  ·have h1:=Int.mul_nonneg (show 0≤Zi V c by omega) (show 0≤ZbV V (Zbz V p).1 c by omega)
   have e1:Zbo (Zi V c*ZbV V (Zbz V p).1 c)=(Zi V c*ZbV V (Zbz V p).1 c):=by unfold Zbo;omega
   have e2:Zbo (Zi V c)=Zi V c:=by unfold Zbo;omega
   rw [e1,e2,Int.mul_comm]
 refine ⟨hmed.1,?_,?_,?_⟩
 ·show -1048576≤Zi V c*ZbV V (Zbz V p).1 c∧Zi V c*ZbV V (Zbz V p).1 c≤1048576
  unfold Zbo at habs;omega
 ·rw [ZfB];exact hs.small (by omega) (by omega)
 ·rw [ZfB,hs.1];rfl
theorem Zus (hN : pieceN p (N : Int)) (hl0 : (Zbz V p).2 = 0) (n e : Int) (lows ups divs : List Part) (w : Lin) (all : Bool) :
 Zj.fn ((n,ZbQ V p,(Zz V p).map (ZgV V (Zbz V p).1),e,lows,ups,divs),(Zbz V p).1,w,all,())=ZkL V p (Zbz V p).1 w all:=by
 show ZbQ V p++(((Zz V p).map (ZgV V (Zbz V p).1)).filter fun q=>all||decide (q.1.1=2)).map (fun q=>(q.1.1,q.1.2.1,Zd4 1 q.2.2 (q.2.1.tdiv (Zbz V p).1) w))++[(2,(Zbz V p).1,w)]=_
 unfold ZkL
 congr 2
 rw [List.filter_map,List.map_map]
 apply List.map_congr_left
 intro c hc
 have hcp:=(List.mem_filter.1 hc).1
 obtain ⟨f0,_,_,_⟩:=Zgi hl0 hcp
 obtain ⟨_,l1,_⟩:=Zgn hl0
 show ((ZgV V (Zbz V p).1 c).1.1,(ZgV V (Zbz V p).1 c).1.2.1,Zd4 1 (ZgV V (Zbz V p).1 c).2.2 ((ZgV V (Zbz V p).1 c).2.1.tdiv (Zbz V p).1) w)=Zvs V (Zbz V p).1 w c
 rw [ZfB]
 have:(ZgV V (Zbz V p).1 c).2.1.tdiv (Zbz V p).1=Zo6 (Zi V c):=ZtO (Zbw.1 hcp).2 f0 l1
 rw [this]
 rfl
theorem Zuo (hN : pieceN p (N : Int)) (hV : V < N) (hl0 : (Zbz V p).2 = 0) (n e : Int) (divs : List Part) {w : Lin} (hw : ZeT w ∧ w.1.length = N - 1) (all : Bool) :
 Zj.pre ((n,ZbQ V p,(Zz V p).map (ZgV V (Zbz V p).1),e,(ZcR V p).map (ZaB V),(upP V p).map (ZaB V),divs),(Zbz V p).1,w,all,()):=by
 have h400:=hN.1
 have hle:∀ f:Zc→Bool,(p.filter f).length≤400:=fun f=>Nat.le_trans (List.length_filter_le _ _) h400
 obtain ⟨_,l1,_⟩:=Zgn hl0
 refine ⟨⟨N - 1,⟨Nat.le_trans Zdc h400,⟨by show ((Zz V p).map _).length≤400;rw [List.length_map];exact hle _,fun q hq=>?_⟩,⟨by show ((ZcR V p).map _).length≤400;rw [List.length_map];exact hle _,fun q hq=>?_⟩,⟨by show ((upP V p).map _).length≤400;rw [List.length_map];exact hle _,fun q hq=>?_⟩⟩,hw.2⟩,by show (Zbz V p).1≠0;omega,hw.1⟩
 ·obtain ⟨c,hc,rfl⟩:=List.mem_map.1 hq
  exact Zs8 hN hV hl0 hc
 ·obtain ⟨c,hc,rfl⟩:=List.mem_map.1 hq
  exact Zgq hN hV (List.mem_filter.1 hc).1
 ·obtain ⟨c,hc,rfl⟩:=List.mem_map.1 hq
  exact Zgq hN hV (List.mem_filter.1 hc).1
end
theorem Zq2 {p:List Zc} {V n:Nat} {l:Int} {d:Nat} (h:¬ (ZcR V p=[]∨upP V p=[])):ZfS (Zdd V p n l d)=(Zz V p).foldlM (fun out c=>if (decide (c.1≠2∧decide (0 < Zi V c)=ZiE V p))=true then ((List.range d).map fun (j:Nat)=>ZkL V p l (Zdi V l c (ZiE V p) j) true).foldlM Zap out else some out) []:=by
 have e:Zdd V p n l d=(Zop V p).flatMap fun c=>(List.range d).map fun (j:Nat)=>ZkL V p l (Zdi V l c (ZiE V p) j) true:=by unfold Zdd;rw [if_neg h]
 rw [e]
 show ((Zop V p).flatMap fun c=>(List.range d).map fun (j:Nat)=>ZkL V p l (Zdi V l c (ZiE V p) j) true).foldlM Zap []=_
 rw [ZeO,Zf4]
 rfl
theorem Zd9.spec {p : List Zc} {N V : Nat} (hN : pieceN p (N : Int)) (hV : V < N) (e : Int) (divs : List Part) {Q : List (List Zc) × Int → Prop}
 (hQ:∀ r,r=(if (Zbz V p).2≠0 then ([],3) else if (Zjd V p (Zbz V p).1).2≠0 then ([],3) else ZjK (Zdd V p (N - 1) (Zbz V p).1 (Zjd V p (Zbz V p).1).1.toNat))→Q r) :
 Zd9 ((N:Int) - 1) (ZbQ V p) ((Zz V p).map (ZaB V)) e ((ZcR V p).map (ZaB V)) ((upP V p).map (ZaB V)) divs Q:=by
 have h400:=hN.1
 have hn12:=hN.2.2.2
 have hlc:∀ l,ZG.fn (l,())=Zmc l:=fun _=>rfl
 have hsu:∀ a l b m,ZE.fn (a,l,b,m,())=Zd4 a l b m:=fun _ _ _ _=>rfl
 have hpl:∀ l k,ZY.fn (l,k,())=(l.1,l.2+k):=fun _ _=>rfl
 unfold Zd9
 have hpartlen:(Zz V p).length≤400:=Nat.le_trans (List.length_filter_le _ _) h400
 simp only [List.length_map,hlc,hsu,hpl]
 have hNt:((N:Int) - 1).toNat=N - 1:=by omega
 simp only [hNt]
 refine Lp.flt ((Zz V p).map (ZaB V)) ZbB [] (fun _=>true) (fun jq=>Zbo jq.2.2.1) (by rw [List.length_map];omega) (fun i t R hi hi' hf htl h1 h2=>?_) (fun R _=>?_)
 ·rw [List.length_map] at hi hi'
  have hm:=Zl (d:=Zb) hi
  have hg:((Zz V p).map (ZaB V)).getD i ZbB=ZaB V ((Zz V p).getD i Zb):=Zep hi
  rw [hg] at h1
  simp only [decide_eq_true hi',Int.toNat_natCast,cond_true,hg]
  have hb:=Zgq hN hV (Zbw.1 hm).1
  obtain ⟨q,hq⟩:∃ q,ZaB V ((Zz V p).getD i Zb)=q:=⟨_,rfl⟩
  simp only [hq,List.length_nil,Nat.zero_add] at hb h1 htl ⊢
  obtain ⟨_,hqa,_,_⟩:=hb
  exact ⟨⟨by omega,hi'⟩,hi,⟨by omega,by omega⟩,⟨by simp only [List.length_singleton];omega,by simp only [List.length_singleton];omega⟩,hf,h1 trivial⟩
 have hall:((Zbc ZbB ((Zz V p).map (ZaB V))).filter fun _=>true).map (fun jq=>Zbo jq.2.2.1)=(Zz V p).map fun c=>Zbo (Zi V c):=by
  rw [Zio ZbB ((Zz V p).map (ZaB V)) (fun _=>true) (fun q=>Zbo q.2.1),List.filter_eq_self.2 (fun _ _=>rfl),List.map_map]
  rfl
 simp only [Int.lt_irrefl,decide_false,cond_false,List.nil_append,List.length_map,hall]
 have hL:Zmc ((Zz V p).map fun c=>Zbo (Zi V c))=Zbz V p:=rfl
 simp only [hL]
 refine ⟨fun x hx=>?_,?_⟩
 ·obtain ⟨c,hc,rfl⟩:=List.mem_map.1 hx
  have:=ZnJ (ZdO (hN.c (Zbw.1 hc).1).1 V)
  omega
 have h30:((3:Int) != (0:Int))=true:=rfl
 have h00:((0:Int) != (0:Int))=false:=rfl
 by_cases hl0:(Zbz V p).2=0
 rotate_left
 ·rw [show ((Zbz V p).2 != 0)=true by simpa using hl0,cond_true]
  refine ⟨fun h=>⟨h,trivial⟩,fun h=>by rw [h];rfl,hQ _ ?_⟩
  rw [if_pos hl0]
 rw [show ((Zbz V p).2 != 0)=false by simpa using hl0,cond_false]
 rw [if_neg (by simpa using hl0)] at hQ
 obtain ⟨_,hl1,hl512⟩:=Zgn hl0
 have hfac:∀ c∈Zz V p,1≤ZbV V (Zbz V p).1 c∧ZbV V (Zbz V p).1 c≤512:=fun c hc=>⟨(Zgi hl0 hc).2.1,(Zgi hl0 hc).2.2.1⟩
 have hsclB:∀ c∈Zz V p,Zoy (N - 1) (ZgV V (Zbz V p).1 c):=fun c hc=>Zs8 hN hV hl0 hc
 have hats:=fun (w:Lin) (all:Bool)=>Zus hN hl0 ((N:Int) - 1) e ((ZcR V p).map (ZaB V)) ((upP V p).map (ZaB V)) divs w all
 have hatp:=fun (w:Lin) (hw:ZeT w∧w.1.length=N - 1) (all:Bool)=>Zuo hN hV hl0 ((N:Int) - 1) e divs hw all
 have hgood:=Zhp hN (v:=V) (by omega) hl0 (d:=(Zjd V p (Zbz V p).1).1.toNat)
 have hsubg:∀ w,ZdK 536871424 (N - 1) w→∀ all,Zki (N - 1) (ZkL V p (Zbz V p).1 w all):=fun w hw all=>Ziy hN (v:=V) (by omega) hl0 (by simpa using hw) all
 have hnear:∀ c∈Zz V p,∀ (low:Bool) (j:Nat),j≤512→ZdK 536871424 (N - 1) (Zdi V (Zbz V p).1 c low j):=fun c hc low j hj=>by
  have:=ZjH (low:=low) (hN.c (Zbw.1 hc).1) (v:=V) (by omega) (hfac c hc) hj
  simpa using this
 have hsclbd:∀ c∈Zz V p,ZdK 536870912 (N - 1) (ZiV V (Zbz V p).1 c):=fun c hc=>by
  have:=ZjI (hN.c (Zbw.1 hc).1) (v:=V) (by omega) (hfac c hc)
  simpa using this
 obtain ⟨l,hl⟩:∃ l,(Zbz V p).1=l:=⟨_,rfl⟩
 simp only [hl] at hl1 hl512 hfac hQ hsclB hats hatp hgood hsubg hnear hsclbd ⊢
 have hstart:((Zz V p).map (ZaB V))=(List.range (Zz V p).length).map fun j=>if j < 0 then ZgV V l ((Zz V p).getD j Zb) else ZaB V ((Zz V p).getD j Zb):=by
  rw [← ZlX Zb (Zz V p) (ZaB V)]
  apply List.map_congr_left
  intro j _
  rw [if_neg (by omega)]
 rw [hstart]
 refine Lp.iter (Zz V p).length (fun i z=>z=((i:Int),l::(((Zz V p).take i).filter fun c=>decide (c.1=2)).map (fun c=>c.2.1*ZbV V l c),(List.range (Zz V p).length).map fun j=>if j < i then ZgV V l ((Zz V p).getD j Zb) else ZaB V ((Zz V p).getD j Zb))) (by simp) ?_
 rintro i z hle rfl R hR
 by_cases hi:i < (Zz V p).length
 ·have hi':(i:Int) < ((Zz V p).length:Int):=by omega
  have hm:=Zl (d:=Zb) hi
  have hR':=hR hi _ rfl
  rw [Zb6 (d:=Zb) hi,List.filter_append,List.map_append] at hR'
  simp only [decide_eq_true hi',Int.toNat_natCast,cond_true,List.length_map,List.length_range,ZhY hi,if_neg (Nat.lt_irrefl i)]
  have hset:=Zrv (n:=(Zz V p).length) (j:=i) (f:=fun j=>if j < i then ZgV V l ((Zz V p).getD j Zb) else ZaB V ((Zz V p).getD j Zb)) (g:=fun j=>if j < i+1 then ZgV V l ((Zz V p).getD j Zb) else ZaB V ((Zz V p).getD j Zb)) (fun j hj=>by
   by_cases h:j < i
   ·rw [if_pos h,if_pos (by omega)]
   ·rw [if_neg h,if_neg (by omega)])
  simp only [if_pos (Nat.lt_succ_self i)] at hset
  obtain ⟨c,hq⟩:∃ c,(Zz V p).getD i Zb=c:=⟨_,rfl⟩
  simp only [hq] at hm hR' hset ⊢
  have hcp:=Zbw.1 hm
  have hcn:=hN.c hcp.1
  obtain ⟨f1,f2⟩:=hfac c hm
  obtain ⟨hsM,hsa,hsL,hsk⟩:=hsclB c hm
  have hsM':-1048576≤c.2.1*ZbV V l c∧c.2.1*ZbV V l c≤1048576:=hsM
  have hsa':-1048576≤Zi V c*ZbV V l c∧Zi V c*ZbV V l c≤1048576:=hsa
  have hcb:=ZdO hcn.1 V
  have hrb:=Zcs hcn (v:=V) (by omega)
  have ha1:Max.max (Zi V c) (-Zi V c)≠(0:Int):=by have:=hcp.2;omega
  have hfe:l.tdiv (Max.max (Zi V c) (-Zi V c))=ZbV V l c:=rfl
  have hpc:(ZaB V c).2.1=Zi V c:=rfl
  have hpr:(ZaB V c).2.2=ZeG V c:=rfl
  have hp1:(ZaB V c).1=c:=rfl
  have hsc:((c.1,((c.2.1*ZbV V l c),(([]:List Int),(0:Int)))),((Zi V c*ZbV V l c),Zd4 (ZbV V l c) (ZeG V c) 0 (ZeG V c)))=ZgV V l c:=rfl
  simp only [hpc,hpr,hp1,hfe,hsc,hset]
  have hdl:(((Zz V p).take i).filter fun c=>decide (c.1=2)).length≤i:=Nat.le_trans (List.length_filter_le _ _) (by rw [List.length_take];omega)
  refine ⟨⟨by omega,hi'⟩,hi,⟨by omega,by omega⟩,⟨ha1,⟨by omega,by omega⟩⟩,⟨by omega,by omega⟩,⟨by omega,by omega⟩,⟨by show -1048576≤ZbV V l c∧ZbV V l c≤1048576;omega,hrb.small (by omega) (by omega),by show (-1048576:Int)≤0∧(0:Int)≤1048576;omega,hrb.small (by omega) (by omega),rfl⟩,⟨by omega,hi'⟩,hi,?_⟩
  by_cases h2:c.1=2
  ·rw [show (c.1 == 2)=true by simpa using h2,cond_true]
   rw [List.filter_cons_of_pos (by simpa using h2)] at hR'
   exact ⟨⟨by omega,by omega⟩,⟨by simp only [List.length_cons,List.length_nil,List.length_map];omega,by simp only [List.length_cons,List.length_nil,List.length_map];omega⟩,⟨by omega,by omega⟩,hR'⟩
  ·rw [show (c.1 == 2)=false by simpa using h2,cond_false]
   rw [List.filter_cons_of_neg (by simpa using h2),List.filter_nil,List.map_nil,List.append_nil] at hR'
   exact ⟨⟨by omega,by omega⟩,hR'⟩
 have:i=(Zz V p).length:=by omega
 subst this
 have hend:((List.range (Zz V p).length).map fun j=>if j < (Zz V p).length then ZgV V l ((Zz V p).getD j Zb) else ZaB V ((Zz V p).getD j Zb))=(Zz V p).map (ZgV V l):=by
  rw [← ZlX Zb (Zz V p) (ZgV V l)]
  apply List.map_congr_left
  intro j hj
  rw [if_pos (List.mem_range.1 hj)]
 simp only [Int.lt_irrefl,decide_false,cond_false,List.take_length,hend,List.length_map]
 have hdd:Zmc (l::((Zz V p).filter fun c=>decide (c.1=2)).map (fun c=>c.2.1*ZbV V l c))=Zjd V p l:=rfl
 simp only [hdd]
 refine ⟨fun x hx=>?_,?_⟩
 ·rcases List.mem_cons.1 hx with rfl | hx
  ·omega
  ·obtain ⟨c,hc,rfl⟩:=List.mem_map.1 hx
   obtain ⟨hc,_⟩:=List.mem_filter.1 hc
   have hsM:-1048576≤c.2.1*ZbV V l c∧c.2.1*ZbV V l c≤1048576:=(hsclB c hc).1
   omega
 by_cases hd0:(Zjd V p l).2=0
 rotate_left
 ·rw [show ((Zjd V p l).2 != 0)=true by simpa using hd0,cond_true]
  refine ⟨fun h=>⟨h,trivial⟩,fun h=>by rw [h];rfl,hQ _ ?_⟩
  rw [if_pos hd0]
 rw [show ((Zjd V p l).2 != 0)=false by simpa using hd0,cond_false]
 rw [if_neg (by simpa using hd0)] at hQ
 obtain ⟨hd1,hd512,_,_⟩:=ZqW hd0
 obtain ⟨d,hd⟩:∃ d:Nat,(Zjd V p l).1=(d:Int):=⟨(Zjd V p l).1.toNat,by omega⟩
 simp only [hd,Int.toNat_natCast] at hd1 hd512 hQ hgood ⊢
 refine ⟨fun h=>⟨h,trivial⟩,fun h=>⟨h,trivial⟩,fun h=>⟨h,trivial⟩,fun h=>by rw [h];rfl,?_⟩
 have hmade:∀ L,ZjK L=match ZfS L with
  | none=>([],3)
  | some out=>(out,0):=fun _=>rfl
 have hfail:ZfS (Zdd V p (N - 1) l d)=none→Q ([],3):=fun h=>hQ _ (by rw [hmade,h])
 have hdone:∀ out,ZfS (Zdd V p (N - 1) l d)=some out→Q (out,0):=fun out h=>hQ _ (by rw [hmade,h])
 by_cases hAB:ZcR V p=[]∨upP V p=[]
 ·have hc:(((ZcR V p).length:Int) == 0||((upP V p).length:Int) == 0)=true:=by
   rcases hAB with h | h<;>simp [h]
  rw [hc,cond_true]
  have hT:Zdd V p (N - 1) l d=(List.range d).map fun (j:Nat)=>ZkL V p l (List.replicate (N - 1) 0,(j:Int)) false:=by
   unfold Zdd;rw [if_pos hAB]
  rw [hT] at hfail hdone
  have hlen:((List.range d).map fun (j:Nat)=>ZkL V p l (List.replicate (N - 1) 0,(j:Int)) false).length=d:=by simp
  refine Lp.tid ((List.range d).map fun (j:Nat)=>ZkL V p l (List.replicate (N - 1) 0,(j:Int)) false) [] _ ZeF.nil (by simp) (by omega) (fun i out m R hi hi' hf hk hol h1 h2 h3=>?_) (fun out m R ht hk hol=>?_)
  ·rw [hlen] at hi hi'
   have hnb:=Zqv (n:=N - 1) (j:=i) (by omega)
   rw [ZhY hi] at h1 h2 h3
   simp only [decide_eq_true hi',cond_true,hats]
   refine ⟨⟨by omega,by omega,by omega,by omega⟩,hatp (List.replicate (N - 1) 0,(i:Int)) ⟨hnb.small (by omega) (by omega),hnb.1⟩ false,ZeC (hsubg (List.replicate (N - 1) 0,(i:Int)) hnb false).D.1 hk hol (fun h4 hn=>?_) (fun hs=>⟨hf,h1 hs⟩) (fun hn=>?_) (fun hs=>⟨hf,h2 hs⟩)⟩
   ·simp only [h00,Za.fn,h4,h30,Bool.or_true,cond_true]
    exact ⟨fun h=>⟨h,trivial⟩,fun h=>rfl,hfail (h3 hn)⟩
   ·exact ⟨fun h=>⟨h,trivial⟩,fun h=>by rw [h];rfl,hfail (h3 hn)⟩
  ·rw [hlen]
   simp only [Int.lt_irrefl,decide_false,cond_false]
   exact ⟨fun h=>⟨h,trivial⟩,fun h=>by rw [h];rfl,hdone out ht⟩
 ·have hc:(((ZcR V p).length:Int) == 0||((upP V p).length:Int) == 0)=false:=by
   simp only [not_or] at hAB
   have h1:(ZcR V p).length≠0:=fun h=>hAB.1 (List.eq_nil_of_length_eq_zero h)
   have h2:(upP V p).length≠0:=fun h=>hAB.2 (List.eq_nil_of_length_eq_zero h)
   simp;omega
  rw [hc,cond_false]
  rw [Zq2 hAB] at hfail hdone
  have hlowS:decide (((ZcR V p).length:Int)≤((upP V p).length:Int))=ZiE V p:=by
   unfold ZiE
   by_cases h:(ZcR V p).length≤(upP V p).length
   ·rw [decide_eq_true h,decide_eq_true (by omega)]
   ·rw [decide_eq_false h,decide_eq_false (by omega)]
  simp only [hlowS]
  obtain ⟨F,hF⟩:∃ F:List (List Zc)→Zc→Option (List (List Zc)),F=fun out c=>if (decide (c.1≠2∧decide (0 < Zi V c)=ZiE V p))=true then ((List.range d).map fun (j:Nat)=>ZkL V p l (Zdi V l c (ZiE V p) j) true).foldlM Zap out else some out:=⟨_,rfl⟩
  rw [← hF] at hfail hdone
  refine Lp.iter (Zz V p).length (fun i (z:Int×List (List Zc)×(ByteArray→Option Bool))=>z.1=(i:Int)∧((Zz V p).take i).foldlM F []=some z.2.1∧ZeF z.2.1 z.2.2∧z.2.1.length≤400) ⟨rfl,rfl,ZeF.nil,by simp⟩ ?_
  rintro i ⟨y,out,m⟩ hle ⟨hy,ht,hk,hol⟩ R hR
  simp only at hy ht hk hol
  subst hy
  by_cases hi:i < (Zz V p).length
  ·have hi':(i:Int) < ((Zz V p).length:Int):=by omega
   have hm:=Zl (d:=Zb) hi
   have hR':=hR hi
   have hsn:((Zz V p).take (i+1)).foldlM F []=F out ((Zz V p).getD i Zb):=ZcM ht hi
   have hnn:F out ((Zz V p).getD i Zb)=none→(Zz V p).foldlM F []=none:=fun h=>Zhw ht hi h
   have hg:((Zz V p).map (ZgV V l)).getD i ZbB=ZgV V l ((Zz V p).getD i Zb):=Zep hi
   simp only [decide_eq_true hi',Int.toNat_natCast,cond_true,hg]
   obtain ⟨c,hq⟩:∃ c,(Zz V p).getD i Zb=c:=⟨_,rfl⟩
   simp only [hq] at hm hsn hnn ⊢
   obtain ⟨f1,f2⟩:=hfac c hm
   have hcp:=Zbw.1 hm
   have hFc:F out c=if (decide (c.1≠2∧decide (0 < Zi V c)=ZiE V p))=true then ((List.range d).map fun (j:Nat)=>ZkL V p l (Zdi V l c (ZiE V p) j) true).foldlM Zap out else some out:=by rw [hF]
   have hk1:(ZgV V l c).1.1=c.1:=rfl
   have ha1:decide ((0:Int) < (ZgV V l c).2.1)=decide (0 < Zi V c):=by
    have:(ZgV V l c).2.1=Zi V c*ZbV V l c:=rfl
    rw [this]
    by_cases h:0 < Zi V c
    ·rw [decide_eq_true h,decide_eq_true ((Zh5 f1).2 h)]
    ·rw [decide_eq_false h,decide_eq_false (fun h'=>h ((Zh5 f1).1 h'))]
   simp only [hk1,ha1,ZfB]
   refine ⟨⟨by omega,hi'⟩,fun h=>⟨h,trivial⟩,fun h=>⟨h,trivial⟩,fun h=>⟨h,h,trivial⟩,fun h=>by rw [h];rfl,?_⟩
   have hcnd:((c.1 == 2)||(decide (0 < Zi V c) != ZiE V p))=!decide (c.1≠2∧decide (0 < Zi V c)=ZiE V p):=by
    by_cases h2:c.1=2
    ·simp [h2]
    ·cases decide (0 < Zi V c)<;>cases ZiE V p<;>simp [h2]
   rw [hcnd]
   cases hsd:decide (c.1≠2∧decide (0 < Zi V c)=ZiE V p) with
   | false =>
     rw [hsd,if_neg (by simp)] at hFc
     simp only [Bool.not_false,cond_true]
     exact ⟨⟨by omega,by omega⟩,hR' _ ⟨rfl,by rw [hsn,hFc],hk,hol⟩⟩
   | true =>
     rw [hsd,if_pos rfl] at hFc
     simp only [Bool.not_true,cond_false]
     have hlen:((List.range d).map fun (j:Nat)=>ZkL V p l (Zdi V l c (ZiE V p) j) true).length=d:=by simp
     have hscl:=hsclbd c hm
     have hsum:Zd4 (-1) (ZiV V l c) 0 (ZiV V l c)=((ZiV V l c).1.map fun n=>-1*n,-1*(ZiV V l c).2):=ZdW _ _
     simp only [hsum]
     refine Lp.tid ((List.range d).map fun (j:Nat)=>ZkL V p l (Zdi V l c (ZiE V p) j) true) out m hk hol (by omega) (fun j out2 m2 R2 hj hj' hf hk2 hol2 h1 h2 h3=>?_) (fun out2 m2 R2 ht2 hk2 hol2=>?_)
     ·rw [hlen] at hj hj'
      have hnb:=hnear c hm (ZiE V p) j (by omega)
      rw [ZhY hj] at h1 h2 h3
      simp only [decide_eq_true hj',cond_true]
      have hsm:ZeT ((ZiV V l c).1.map fun n=>-1*n,-1*(ZiV V l c).2):=by
       have h:=ZjH (low:=true) (j:=0) (hN.c hcp.1) (v:=V) (l:=l) (by omega) (hfac c hm) (by omega)
       have h':=h.small (by omega) (by omega)
       unfold Zdi at h'
       simpa using h'
      refine ⟨⟨by show (-1048576:Int)≤-1∧(-1:Int)≤1048576;omega,hscl.small (by omega) (by omega),by show (-1048576:Int)≤0∧(0:Int)≤1048576;omega,hscl.small (by omega) (by omega),rfl⟩,⟨hsm,by show -1048576≤(j:Int);omega,by show (j:Int)≤1048576;omega⟩,?_⟩
      cases hlow:ZiE V p with
      | false =>
        rw [hlow] at hnb h1 h2 h3
        have hw:((ZiV V l c).1,(ZiV V l c).2+-(j:Int))=Zdi V l c false j:=rfl
        simp only [Bool.not_false,cond_true,hw,hats]
        refine ⟨⟨by omega,by omega⟩,⟨hscl.small (by omega) (by omega),by show -1048576≤-(j:Int);omega,by show -(j:Int)≤1048576;omega⟩,hatp _ ⟨hnb.small (by omega) (by omega),hnb.1⟩ true,ZeC (hsubg _ hnb true).D.1 hk2 hol2 (fun h4 hn=>?_) (fun hs=>⟨hf,h1 hs⟩) (fun hn=>?_) (fun hs=>⟨hf,h2 hs⟩)⟩
        ·simp only [h00,Za.fn,h4,h30,Bool.or_true,cond_true]
         exact ⟨fun h=>⟨h,trivial⟩,fun h=>rfl,hfail (hnn (by rw [hFc,hlow];exact h3 hn))⟩
        ·exact ⟨fun h=>⟨h,trivial⟩,fun h=>by rw [h];rfl,hfail (hnn (by rw [hFc,hlow];exact h3 hn))⟩
      | true =>
        rw [hlow] at hnb h1 h2 h3
        have hw:((ZiV V l c).1.map (fun n=>-1*n),-1*(ZiV V l c).2+(j:Int))=Zdi V l c true j:=rfl
        simp only [Bool.not_true,cond_false,hw,hats]
        refine ⟨hatp _ ⟨hnb.small (by omega) (by omega),hnb.1⟩ true,ZeC (hsubg _ hnb true).D.1 hk2 hol2 (fun h4 hn=>?_) (fun hs=>⟨hf,h1 hs⟩) (fun hn=>?_) (fun hs=>⟨hf,h2 hs⟩)⟩
        ·simp only [h00,Za.fn,h4,h30,Bool.or_true,cond_true]
         exact ⟨fun h=>⟨h,trivial⟩,fun h=>rfl,hfail (hnn (by rw [hFc,hlow];exact h3 hn))⟩
        ·exact ⟨fun h=>⟨h,trivial⟩,fun h=>by rw [h];rfl,hfail (hnn (by rw [hFc,hlow];exact h3 hn))⟩
     ·rw [hlen]
      simp only [Int.lt_irrefl,decide_false,cond_false]
      exact ⟨⟨by omega,by omega⟩,hR' _ ⟨rfl,by rw [hsn,hFc];exact ht2,hk2,hol2⟩⟩
  ·have:i=(Zz V p).length:=by omega
   subst this
   rw [List.take_length] at ht
   simp only [Int.lt_irrefl,decide_false,cond_false]
   exact ⟨fun h=>⟨h,trivial⟩,fun h=>by rw [h];rfl,hdone out ht⟩
end Go.Proofs.YtgpdnmfpgkkgcaaGreatDoor
namespace Go.Proofs.YtgpdnmfpgkkgcaaGreatDoor
open Go
set_option linter.unusedVariables false
theorem ZhG {p q:List Zc} (h:∀ x,x∈p↔x∈q):ZaL p=ZaL q:=by
 unfold ZaL
 rw [Bool.eq_iff_iff]
 simp only [List.any_eq_true,List.mem_map]
 constructor
 ·rintro ⟨r,⟨c,hc,rfl⟩,hr⟩;exact ⟨_,⟨c,(h c).1 hc,rfl⟩,hr⟩
 ·rintro ⟨r,⟨c,hc,rfl⟩,hr⟩;exact ⟨_,⟨c,(h c).2 hc,rfl⟩,hr⟩
theorem Zkq {p q:List Zc} (h:∀ x,x∈p↔x∈q) (x:Zc):x∈Zbv p↔x∈Zbv q:=by
 unfold Zbv
 simp only [List.mem_map,List.mem_filter]
 constructor
 ·rintro ⟨r,⟨⟨c,hc,rfl⟩,hr⟩,rfl⟩;exact ⟨_,⟨⟨c,(h c).1 hc,rfl⟩,hr⟩,rfl⟩
 ·rintro ⟨r,⟨⟨c,hc,rfl⟩,hr⟩,rfl⟩;exact ⟨_,⟨⟨c,(h c).2 hc,rfl⟩,hr⟩,rfl⟩
theorem ZuV {p q:List Zc} (h:∀ x,x∈p↔x∈q):Lm p=Lm q:=by
 funext x
 apply propext
 unfold Lm
 constructor
 ·rintro ⟨h1,h2⟩;exact ⟨(h x).1 h1,fun h0 d hd=>h2 h0 d ((h d).2 hd)⟩
 ·rintro ⟨h1,h2⟩;exact ⟨(h x).2 h1,fun h0 d hd=>h2 h0 d ((h d).1 hd)⟩
theorem Zp9 {p q:List Zc} {n:Nat} (hp:ZaG p∧ZdJ p n) (hq:ZaG q∧ZdJ q n) (h:∀ x,x∈p↔x∈q):ZaH p=ZaH q:=by
 by_cases hv:ZaL p=true
 ·rw [ZbN,ZbN,← ZhG h,hv];rfl
 ·have hv:ZaL p=false:=by simpa using hv
  have hv2:ZaL q=false:=by rw [← ZhG h];exact hv
  obtain ⟨a1,a2⟩:=Zdf hp.1 hp.2 hv
  obtain ⟨b1,b2⟩:=Zdf hq.1 hq.2 hv2
  have hL:Lm (Zbv q)=Lm (Zbv p):=(ZuV (Zkq h)).symm
  rw [hL] at b1 b2
  by_cases hV:Zgb (Lm (Zbv p))∨Zfj (MM (Lm (Zbv p)))
  ·rw [a1 hV,b1 hV]
  ·obtain ⟨m,hm⟩:=Zir hp.1 hp.2 hv (fun h=>hV (.inl h)) (fun h=>hV (.inr h))
   rw [a2 (fun h=>hV (.inl h)) (fun h=>hV (.inr h)) m hm,b2 (fun h=>hV (.inl h)) (fun h=>hV (.inr h)) m hm]
   have hany:(Zbv p).any (fun c=>!Zf c)=(Zbv q).any (fun c=>!Zf c):=by
    rw [Bool.eq_iff_iff]
    simp only [List.any_eq_true]
    constructor
    ·rintro ⟨c,hc,h2⟩;exact ⟨c,(Zkq h c).1 hc,h2⟩
    ·rintro ⟨c,hc,h2⟩;exact ⟨c,(Zkq h c).2 hc,h2⟩
   rw [hany]
theorem Zfh {α:Type} {d:α}:∀ {l:List α} {k:Nat},k < l.length→l=l.take k++l.getD k d::l.drop (k+1)
 | [],k,h=>by simp at h
 | x::l,0,_=>by simp
 | x::l,k+1,h=>by
   simp only [List.take_succ_cons,List.getD_cons_succ,List.drop_succ_cons,List.cons_append]
   congr 1
   exact Zfh (by simpa using h)
theorem ZhX {α:Type} (d:α) (l:List α) (k:Nat) (hk:k < l.length):((Zbc d l).filter fun ix=>decide (ix.1≠k)).map (·.2)=l.take k++l.drop (k+1):=by
 have hr:List.range l.length=List.range k++k::(List.range (l.length - (k+1))).map (fun j=>j+(k+1)):=by
  obtain ⟨r,hr⟩:∃ r,l.length - (k+1)=r:=⟨_,rfl⟩
  rw [hr,show l.length=k+(1+r) by omega,List.range_add,List.range_add,List.map_append,List.map_map]
  congr 1
  show [k+0]++_=_
  rw [List.singleton_append]
  congr 1
  apply List.map_congr_left
  intro j _
  show k+(1+j)=j+(k+1)
  omega
 unfold Zbc
 rw [hr,List.map_append,List.map_cons,List.filter_append,List.map_append,List.filter_cons_of_neg (by simp)]
 congr 1
 ·rw [List.filter_eq_self.2 ?_,List.map_map]
  ·apply List.ext_getElem (by simp;omega)
   intro i h1 h2
   simp only [List.length_map,List.length_range] at h1
   simp only [List.getElem_map,List.getElem_range,Function.comp,List.getElem_take]
   exact ZT (by omega)
  ·intro x hx
   simp only [List.mem_map,List.mem_range] at hx
   obtain ⟨i,hi,rfl⟩:=hx
   simp;omega
 ·rw [List.filter_eq_self.2 ?_,List.map_map,List.map_map]
  ·apply List.ext_getElem (by simp)
   intro i h1 h2
   simp only [List.length_map,List.length_range] at h1
   simp only [List.getElem_map,List.getElem_range,Function.comp,List.getElem_drop]
   rw [ZT (by omega)]
   congr 1;omega
  ·intro x hx
   simp only [List.mem_map,List.mem_range] at hx
   obtain ⟨j,⟨i,hi,rfl⟩,rfl⟩:=hx
   simp;omega
theorem ZgP (v:Nat) (a b:List Zc):Zz v (a++b)=Zz v a++Zz v b:=List.filter_append _ _
theorem ZmB {v : Nat} {p : List Zc} {j : Nat} (hj : j < p.length) (h0 : Zi v (p.getD j Zb) ≠ 0) : (Zz v (p.take j)).length < (Zz v p).length ∧ (Zz v p).getD (Zz v (p.take j)).length Zb = p.getD j Zb ∧
 (Zz v p).take (Zz v (p.take j)).length++(Zz v p).drop ((Zz v (p.take j)).length+1)=Zz v (p.take j++p.drop (j+1)):=by
 have e:Zz v p=Zz v (p.take j)++p.getD j Zb::Zz v (p.drop (j+1)):=by
  have:=congrArg (Zz v) (Zfh (d:=Zb) hj)
  rw [this,ZgP]
  congr 1
  show List.filter _ (p.getD j Zb::p.drop (j+1))=_
  rw [List.filter_cons_of_pos (by simpa using h0)]
  rfl
 rw [e]
 refine ⟨by simp,?_,?_⟩
 ·rw [List.getD_eq_getElem?_getD,List.getElem?_append_right (Nat.le_refl _)];simp
 ·rw [ZgP]
  congr 1
  ·simp
  ·rw [List.drop_append];simp
def eqQ (v:Nat) (p:List Zc) (i:Nat):Int:=if eqJ v p i < 0 then -1 else ((Zz v (p.take (eqJ v p i).toNat)).length:Int)
theorem ZtP (v:Nat) (e c:Zc):ZsX (ZaB v e) (ZaB v c)=Zqp v e c:=by
 unfold ZsX Zqp ZaB
 simp only
 rw [Int.mul_comm (Zbo (Zi v e)) c.2.1,Int.mul_comm _ (Zi v c)]
theorem Zmr {p : List Zc} {N V : Nat} (hN : pieceN p (N : Int)) (hV : V < N) {j : Nat} (hj : j < p.length) (h0 : Zi V (p.getD j Zb) ≠ 0) (n : Int) (lows ups divs : List Part) :
 ZaG (ZdY (n,ZbQ V p,(Zz V p).map (ZaB V),((Zz V (p.take j)).length:Int),lows,ups,divs)) ∧
 ZaH (ZdY (n,ZbQ V p,(Zz V p).map (ZaB V),((Zz V (p.take j)).length:Int),lows,ups,divs))=ZaH (Zd6 V p j):=by
 obtain ⟨k1,k2,k3⟩:=ZmB hj h0
 obtain ⟨e,he⟩:∃ e,p.getD j Zb=e:=⟨_,rfl⟩
 obtain ⟨tail,htail⟩:∃ tail:List Zc,tail=if 1 < Zbo (Zi V e) then [(2,Zbo (Zi V e),ZeG V e)] else []:=⟨_,rfl⟩
 have hq:ZdY (n,ZbQ V p,(Zz V p).map (ZaB V),((Zz V (p.take j)).length:Int),lows,ups,divs)=ZbQ V p++(Zz V (p.take j++p.drop (j+1))).map (Zqp V e)++tail:=by
  unfold ZdY
  simp only [Int.toNat_natCast]
  have hg:((Zz V p).map (ZaB V)).getD (Zz V (p.take j)).length ZbB=ZaB V e:=by rw [Zep (d:=Zb) k1,k2,he]
  rw [hg,htail]
  congr 2
  have hx:((Zbc ZbB ((Zz V p).map (ZaB V))).filter fun jq=>decide ((jq.1:Int)≠((Zz V (p.take j)).length:Int)))=((Zbc ZbB ((Zz V p).map (ZaB V))).filter fun jq=>decide (jq.1≠(Zz V (p.take j)).length)):=by
   apply List.filter_congr
   intro x _
   exact decide_eq_decide.2 (by omega)
  have hm:((Zbc ZbB ((Zz V p).map (ZaB V))).filter fun jq=>decide ((jq.1:Int)≠((Zz V (p.take j)).length:Int))).map (fun jq=>ZsX (ZaB V e) jq.2)=(((Zbc ZbB ((Zz V p).map (ZaB V))).filter fun jq=>decide (jq.1≠(Zz V (p.take j)).length)).map (·.2)).map (ZsX (ZaB V e)):=by
   rw [hx,List.map_map];rfl
  rw [hm,ZhX ZbB _ _ (by rw [List.length_map];exact k1),← List.map_take,← List.map_drop,← List.map_append,k3,List.map_map]
  apply List.map_congr_left
  intro c _
  exact ZtP V e c
 have hp:Zd6 V p j=(p.take j++p.drop (j+1)).map (fun c=>if Zi V c=0 then Zej V c else Zqp V e c)++tail:=by
  unfold Zd6
  rw [he,htail]
  congr 1
  rw [← ZhX Zb p j hj,List.map_map]
  rfl
 have hmem:∀ x,x∈ZbQ V p++(Zz V (p.take j++p.drop (j+1))).map (Zqp V e)++tail↔x∈(p.take j++p.drop (j+1)).map (fun c=>if Zi V c=0 then Zej V c else Zqp V e c)++tail:=by
  intro x
  rw [List.mem_append,List.mem_append,List.mem_append]
  have hfree:x∈ZbQ V p↔∃ c∈p.take j++p.drop (j+1),Zi V c=0∧Zej V c=x:=by
   unfold ZbQ
   simp only [List.mem_map,List.mem_filter,decide_eq_true_eq]
   constructor
   ·rintro ⟨c,⟨hc,hc0⟩,rfl⟩
    refine ⟨c,?_,hc0,rfl⟩
    rw [Zfh (d:=Zb) hj] at hc
    rcases List.mem_append.1 hc with hc | hc
    ·exact List.mem_append_left _ hc
    ·rcases List.mem_cons.1 hc with rfl | hc
     ·exact absurd hc0 h0
     ·exact List.mem_append_right _ hc
   ·rintro ⟨c,hc,hc0,rfl⟩
    refine ⟨c,⟨?_,hc0⟩,rfl⟩
    rcases List.mem_append.1 hc with hc | hc
    ·exact List.mem_of_mem_take hc
    ·exact List.mem_of_mem_drop hc
  have hmap:x∈(p.take j++p.drop (j+1)).map (fun c=>if Zi V c=0 then Zej V c else Zqp V e c)↔(∃ c∈p.take j++p.drop (j+1),Zi V c=0∧Zej V c=x)∨x∈(Zz V (p.take j++p.drop (j+1))).map (Zqp V e):=by
   simp only [List.mem_map,Zbw]
   constructor
   ·rintro ⟨c,hc,rfl⟩
    by_cases hc0:Zi V c=0
    ·rw [if_pos hc0];exact .inl ⟨c,hc,hc0,rfl⟩
    ·rw [if_neg hc0];exact .inr ⟨c,⟨hc,hc0⟩,rfl⟩
   ·rintro (⟨c,hc,hc0,rfl⟩ | ⟨c,⟨hc,hc0⟩,rfl⟩)
    ·exact ⟨c,hc,if_pos hc0⟩
    ·exact ⟨c,hc,if_neg hc0⟩
  rw [hfree,hmap]
 have hgood:=ZgH hN (v:=V) (by omega) hj h0
 have hgq:Zki (N - 1) (ZdY (n,ZbQ V p,(Zz V p).map (ZaB V),((Zz V (p.take j)).length:Int),lows,ups,divs)):=by
  rw [hq]
  refine ⟨?_,fun c hc=>?_⟩
  ·have h1:=Zdc (v:=V) (p:=p)
   have h2:(Zz V (p.take j++p.drop (j+1))).length≤(p.take j++p.drop (j+1)).length:=List.length_filter_le _ _
   have h3:tail.length≤1:=by rw [htail];split<;>simp
   have h4:=hN.1
   simp only [List.length_append,List.length_map,List.length_take,List.length_drop] at h2 ⊢
   omega
  ·have:=(hmem c).1 hc
   rw [← hp] at this
   exact hgood.2 c this
 refine ⟨hgq.D.1,Zp9 hgq.D hgood.D fun x=>?_⟩
 rw [hq,hp]
 exact hmem x
theorem Zpa (C:List Int) (V:Nat):C.take V++C.drop ((V:Int)+1).toNat=ZrQ C V:=by
 rw [show ((V:Int)+1).toNat=V+1 by omega];rfl
theorem ZtJ {q q':List Zc} (h:ZaH q=ZaH q'):ZfS [q]=ZfS [q']:=by
 show [q].foldlM Zap []=[q'].foldlM Zap []
 rw [List.foldlM_cons,List.foldlM_cons]
 have:Zap [] q=Zap [] q':=by unfold Zap;rw [h]
 rw [this]
theorem ZI.spec (p:List Zc) (n v:Int) (hp:ZI.pre (p,n,v,())):ZI.wp p n v (fun r=>r=ZI.fn (p,n,v,())):=by
 obtain ⟨hN,hv0,hv1⟩:=hp
 simp only at hN hv0 hv1
 obtain ⟨V,rfl⟩:∃ V:Nat,v=(V:Int):=⟨v.toNat,by omega⟩
 obtain ⟨N,rfl⟩:∃ N:Nat,n=(N:Int):=⟨n.toNat,by omega⟩
 have h400:=hN.1
 have hn12:=hN.2.2.2
 have hV:V < N:=by omega
 have hfn:ZI.fn (p,(N:Int),(V:Int),())=Z6 p N V:=rfl
 have hsh:Z6 p N V=match ZeM p N V with
  | none=>([],3)
  | some l=>ZjK l:=rfl
 have hmade:∀ L,ZjK L=match ZfS L with
  | none=>([],3)
  | some out=>(out,0):=fun _=>rfl
 unfold ZI.wp
 rw [hfn]
 dsimp only
 refine ⟨⟨by omega,by omega⟩,?_⟩
 refine Lp.iter p.length (fun i z=>z=((i:Int),(N:Int) - 1,eqQ V p i,ZbQ V (p.take i),(Zz V (p.take i)).map (ZaB V),(ZkS V (p.take i)).map (ZaB V),(ZcR V (p.take i)).map (ZaB V),(upP V (p.take i)).map (ZaB V))) (by simp [eqQ,eqJ,ZbQ,ZkS,ZcR,upP,Zz]) ?_
 rintro i z hle rfl R hR
 by_cases e:i < p.length
 ·have e':(i:Int) < (p.length:Int):=by omega
  have hm:=Zl (d:=Zb) e
  have hR':=hR e _ rfl
  have hQ1:eqQ V p (i+1)=if Zi V (p.getD i Zb)≠0∧(p.getD i Zb).1=1∧(eqJ V p i < 0∨Zbo (Zi V (p.getD i Zb)) < Zbo (Zi V (p.getD (eqJ V p i).toNat Zb))) then ((Zz V (p.take i)).length:Int) else eqQ V p i:=by
   unfold eqQ
   rw [ZnX]
   unfold ZdS
   split
   ·rw [if_neg (by omega),Int.toNat_natCast]
   ·rfl
  rw [hQ1,Zb6 (d:=Zb) e,Zor,ZoS,Zql,Zox,ZqP] at hR'
  simp only [decide_eq_true e',Int.toNat_natCast,cond_true,Zpa,List.length_map]
  have hJ:=Zpq V p i (by omega)
  have hpart:0≤eqJ V p i→eqQ V p i=((Zz V (p.take (eqJ V p i).toNat)).length:Int)∧(Zz V (p.take (eqJ V p i).toNat)).length < (Zz V (p.take i)).length∧((Zz V (p.take i)).map (ZaB V)).getD (eqQ V p i).toNat ZbB=ZaB V (p.getD (eqJ V p i).toNat Zb):=fun h0=>by
   rcases hJ with h | ⟨_,h2,h3,h4⟩
   ·omega
   ·have hjl:(eqJ V p i).toNat < (p.take i).length:=by rw [List.length_take];omega
    have hg:(p.take i).getD (eqJ V p i).toNat Zb=p.getD (eqJ V p i).toNat Zb:=by
     rw [List.getD_eq_getElem?_getD,List.getD_eq_getElem?_getD,List.getElem?_take,if_pos (by omega)]
    have hk:=ZmB (v:=V) (p:=p.take i) hjl (by rw [hg];exact h3)
    rw [List.take_take,Nat.min_eq_left (by omega),hg] at hk
    have hq:eqQ V p i=((Zz V (p.take (eqJ V p i).toNat)).length:Int):=by unfold eqQ;rw [if_neg (by omega)]
    refine ⟨hq,hk.1,?_⟩
    rw [hq,Int.toNat_natCast,Zep (d:=Zb) hk.1,hk.2.1]
  have hneg:eqQ V p i < 0↔eqJ V p i < 0:=by
   unfold eqQ
   split
   ·omega
   ·omega
  obtain ⟨c,hq⟩:∃ c,p.getD i Zb=c:=⟨_,rfl⟩
  simp only [hq] at hm hR' ⊢
  have hcn:=hN.c hm
  have hlen:(V:Int) < (c.2.2.1.length:Int):=by have:=hcn.2;omega
  have hcoef:c.2.2.1.getD V 0=Zi V c:=rfl
  have hoth:((c.1,(c.2.1,(ZrQ c.2.2.1 V,c.2.2.2))):Zc)=Zej V c:=rfl
  have hpc:((c,(Zi V c,(ZrQ c.2.2.1 V,c.2.2.2))):Part)=ZaB V c:=rfl
  simp only [hcoef,hoth,hpc]
  have hcb:=ZdO hcn.1 V
  have hfi:Zw IntKind.i64 ((i:Int)+1):=⟨by omega,by omega⟩
  have l0:(Zz V (p.take i)).length≤i:=ZfJ i
  have l2:(ZkS V (p.take i)).length≤i:=ZfJ i
  have l3:(ZcR V (p.take i)).length≤i:=ZfJ i
  have l4:(upP V (p.take i)).length≤i:=ZfJ i
  have l1':(ZbQ V (p.take i)).length≤i:=by unfold ZbQ;rw [List.length_map];exact ZfJ i
  have hne:c.2.2.1≠([]:List Int):=fun h=>by rw [h] at hlen;simp at hlen;omega
  refine ⟨⟨by omega,e'⟩,by omega,⟨by omega,by omega⟩,⟨hne,by omega,by omega,by omega⟩,⟨by omega,hlen⟩,?_⟩
  have obp:((((Zz V (p.take i)).length+List.length [ZaB V c])*88)≤140737488355328∧((Zz V (p.take i)).length+List.length [ZaB V c])≤9223372036854775807):=⟨by simp only [List.length_singleton];omega,by simp only [List.length_singleton];omega⟩
  by_cases h0:Zi V c=0
  ·rw [show (Zi V c == 0)=true by simpa using h0,cond_true]
   rw [if_neg (fun h=>h.1 h0),if_pos h0,if_neg (show ¬ (Zi V c≠0) from fun h=>h h0),if_neg (fun h=>h.1 h0),if_neg (fun h=>h.1 h0),if_neg (fun h=>h.1 h0),List.append_nil,List.append_nil,List.append_nil,List.append_nil] at hR'
   exact ⟨⟨by simp only [List.length_singleton];omega,by simp only [List.length_singleton];omega⟩,hfi,hR'⟩
  ·rw [show (Zi V c == 0)=false by simpa using h0,cond_false]
   rw [if_neg (show ¬ Zi V c=0 from h0),List.append_nil,if_pos (show Zi V c≠0 from h0),List.map_append,List.map_cons,List.map_nil] at hR'
   by_cases h1:c.1=1
   ·rw [show (c.1 == 1)=true by simpa using h1,cond_true]
    rw [if_neg (show ¬ (Zi V c≠0∧c.1=2) from fun h=>by omega),if_neg (show ¬ (Zi V c≠0∧c.1≠1∧c.1≠2∧0 < Zi V c) from fun h=>h.2.1 h1),if_neg (show ¬ (Zi V c≠0∧c.1≠1∧c.1≠2∧¬ 0 < Zi V c) from fun h=>h.2.1 h1),List.append_nil,List.append_nil,List.append_nil] at hR'
    by_cases hE0:eqJ V p i < 0
    ·have hEq:eqQ V p i < 0:=hneg.2 hE0
     simp only [decide_eq_true hEq,Bool.not_true,Bool.true_or,cond_true]
     rw [if_pos ⟨h0,h1,.inl hE0⟩] at hR'
     simp only [Bool.false_eq_true,false_implies,true_and,Bool.true_eq_false]
     exact ⟨obp,hfi,hR'⟩
    ·have hEq:¬ eqQ V p i < 0:=fun h=>hE0 (hneg.1 h)
     obtain ⟨k1,k2,k3⟩:=hpart (by omega)
     have hjp:(eqJ V p i).toNat < p.length:=by rcases hJ with h | h<;>omega
     have hmE:=Zl (d:=Zb) hjp
     obtain ⟨ce,hce⟩:∃ ce,p.getD (eqJ V p i).toNat Zb=ce:=⟨_,rfl⟩
     simp only [hce] at hmE hR' k3
     have hceb:=ZdO (hN.c hmE).1 V
     have hpce:(ZaB V ce).2.1=Zi V ce:=rfl
     simp only [k3,hpce,decide_eq_false hEq,Bool.not_false,Bool.false_or]
     have hcf:Zw IntKind.i64 (-Zi V c):=⟨by omega,by omega⟩
     have hcef:Zw IntKind.i64 (-Zi V ce):=⟨by omega,by omega⟩
     have hEr:(0:Int)≤eqQ V p i∧eqQ V p i < ((Zz V (p.take i)).length:Int):=⟨by omega,by omega⟩
     have hEn:(eqQ V p i).toNat < (Zz V (p.take i)).length:=by omega
     refine ⟨fun h=>⟨h,hcf⟩,fun h=>⟨h,h,trivial⟩,fun h=>⟨h,trivial⟩,fun h=>⟨h,trivial⟩,fun h=>⟨h,h,hEr⟩,fun h=>⟨h,trivial⟩,fun h=>⟨h,hEn⟩,fun h=>⟨h,trivial⟩,fun h=>⟨h,trivial⟩,fun h=>⟨h,h,hEr⟩,fun h=>⟨h,trivial⟩,fun h=>⟨h,hEn⟩,fun h=>⟨h,hcef⟩,fun h=>⟨h,h,trivial⟩,fun h=>⟨h,h,trivial⟩,fun _=>trivial,?_⟩
     by_cases hlt:Zbo (Zi V c) < Zbo (Zi V ce)
     ·have hlt':Max.max (Zi V c) (-Zi V c) < Max.max (Zi V ce) (-Zi V ce):=hlt
      rw [decide_eq_true hlt',cond_true]
      rw [if_pos ⟨h0,h1,.inr hlt⟩] at hR'
      exact ⟨obp,hfi,hR'⟩
     ·have hlt':¬ Max.max (Zi V c) (-Zi V c) < Max.max (Zi V ce) (-Zi V ce):=hlt
      rw [decide_eq_false hlt',cond_false]
      rw [if_neg (fun h=>h.2.2.elim hE0 hlt)] at hR'
      exact ⟨obp,hfi,hR'⟩
   ·rw [show (c.1 == 1)=false by simpa using h1,cond_false]
    rw [if_neg (fun h=>h1 h.2.1)] at hR'
    by_cases h2:c.1=2
    ·rw [show (c.1 == 2)=true by simpa using h2,cond_true]
     rw [if_pos ⟨h0,h2⟩,if_neg (fun h=>h.2.2.1 h2),if_neg (fun h=>h.2.2.1 h2),List.append_nil,List.append_nil,List.map_append,List.map_cons,List.map_nil] at hR'
     exact ⟨⟨by simp only [List.length_singleton];omega,by simp only [List.length_singleton];omega⟩,obp,hfi,hR'⟩
    ·rw [show (c.1 == 2)=false by simpa using h2,cond_false]
     rw [if_neg (show ¬ (Zi V c≠0∧c.1=2) from fun h=>h2 h.2),List.append_nil] at hR'
     by_cases hpos:0 < Zi V c
     ·rw [decide_eq_true hpos,cond_true]
      rw [if_pos ⟨h0,h1,h2,hpos⟩,if_neg (fun h=>h.2.2.2 hpos),List.append_nil,List.map_append,List.map_cons,List.map_nil] at hR'
      exact ⟨⟨by simp only [List.length_singleton];omega,by simp only [List.length_singleton];omega⟩,obp,hfi,hR'⟩
     ·rw [decide_eq_false hpos,cond_false]
      rw [if_neg (fun h=>hpos h.2.2.2),if_pos ⟨h0,h1,h2,hpos⟩,List.append_nil,List.map_append,List.map_cons,List.map_nil] at hR'
      exact ⟨⟨by simp only [List.length_singleton];omega,by simp only [List.length_singleton];omega⟩,obp,hfi,hR'⟩
 have hip:i=p.length:=by omega
 subst hip
 rw [decide_eq_false (Int.lt_irrefl _),cond_false,List.take_length]
 have hJ:=Zpq V p p.length (Nat.le_refl _)
 have hJe:eqJ V p p.length=eqI V p:=rfl
 rw [hJe] at hJ
 have hQe:eqQ V p p.length=if eqI V p < 0 then -1 else ((Zz V (p.take (eqI V p).toNat)).length:Int):=rfl
 have hle:∀ f:Zc→Bool,(p.filter f).length≤400:=fun f=>Nat.le_trans (List.length_filter_le _ _) h400
 have hPcB:∀ (n e:Int) (divs:List Part),PcB (N - 1) (n,ZbQ V p,(Zz V p).map (ZaB V),e,(ZcR V p).map (ZaB V),(upP V p).map (ZaB V),divs):=fun n e divs=>by
  refine ⟨Nat.le_trans Zdc h400,⟨by show ((Zz V p).map _).length≤400;rw [List.length_map];exact hle _,fun q hq=>?_⟩,⟨by show ((ZcR V p).map _).length≤400;rw [List.length_map];exact hle _,fun q hq=>?_⟩,⟨by show ((upP V p).map _).length≤400;rw [List.length_map];exact hle _,fun q hq=>?_⟩⟩
  ·obtain ⟨c,hc,rfl⟩:=List.mem_map.1 hq
   exact Zgq hN hV (Zbw.1 hc).1
  ·obtain ⟨c,hc,rfl⟩:=List.mem_map.1 hq
   exact Zgq hN hV (List.mem_filter.1 hc).1
  ·obtain ⟨c,hc,rfl⟩:=List.mem_map.1 hq
   exact Zgq hN hV (List.mem_filter.1 hc).1
 have h30:((3:Int) != (0:Int))=true:=rfl
 have h00:((0:Int) != (0:Int))=false:=rfl
 have one:∀ (q q':List Zc),ZaG q→ZaH q=ZaH q'→ZeM p N V=some [q']→Lp (σ:=Int×(List (List (Zc)))×(ByteArray→Option Bool)) (fun y6 R6=>let v13:=List.getD [q] (Int.toNat y6.1) ([]:List (Zc));let v14:=Zn.fn ((Za.fn (v13,())).1,());let v16:=[(Za.fn (v13,())).1];cond (decide (y6.1 < ((List.length [q]:Nat):Int))) (((0:Int)≤y6.1∧y6.1 < ((List.length [q]:Nat):Int))∧(Za.pre (v13,())∧cond (((Za.fn (v13,())).2).2 != (0:Int)) (((!((0:Int) != (0:Int)))=true→((!((0:Int) != (0:Int)))=true∧True))∧((((0:Int) != (0:Int))=false→(!((0:Int) != (0:Int)))=true)∧cond (((0:Int) != (0:Int))||(((Za.fn (v13,())).2).2 != (0:Int))) ((([]:List (List (Zc))),(3:Int))=Z6 p N V) ((([]:List (List (Zc))),(0:Int))=Z6 p N V))) (((!(((Za.fn (v13,())).2).1))=true→((!(((Za.fn (v13,())).2).1))=true∧Zn.pre ((Za.fn (v13,())).1,())))∧(((!(((Za.fn (v13,())).2).1))=true→((!(((Za.fn (v13,())).2).1))=true∧((!(((Za.fn (v13,())).2).1))=true∧True)))∧((((Za.fn (v13,())).2).1=false→(!(((Za.fn (v13,())).2).1))=true)∧cond (((Za.fn (v13,())).2).1||(Option.getD (y6.2.2 v14) false)) (Zw IntKind.i64 (y6.1+(1:Int))∧R6 ((y6.1+(1:Int)),y6.2)) (Zn.pre ((Za.fn (v13,())).1,())∧((((List.length y6.2.1+List.length v16)*24)≤140737488355328∧(List.length y6.2.1+List.length v16)≤9223372036854775807)∧cond (decide ((400:Int) < (((List.length (y6.2.1++v16)):Nat):Int))) (((!((0:Int) != (0:Int)))=true→((!((0:Int) != (0:Int)))=true∧True))∧((((0:Int) != (0:Int))=false→(!((0:Int) != (0:Int)))=true)∧(([]:List (List (Zc))),(3:Int))=Z6 p N V)) (Zw IntKind.i64 (y6.1+(1:Int))∧R6 ((y6.1+(1:Int)),((y6.2.1++v16),Zc6 y6.2.2 v14 true)))))))))) (((!((0:Int) != (0:Int)))=true→((!((0:Int) != (0:Int)))=true∧True))∧((((0:Int) != (0:Int))=false→(!((0:Int) != (0:Int)))=true)∧(y6.2.1,(0:Int))=Z6 p N V))) ((0:Int),(([]:List (List (Zc))),fun (a6:ByteArray)=>(none:Option Bool))):=by
  intro q q' hB ht hS
  have hres:Z6 p N V=match ZfS [q] with
   | none=>([],3)
   | some out=>(out,0):=by rw [hsh,hS,ZtJ ht];exact hmade _
  refine Lp.tid [q] [] _ ZeF.nil (by simp) (by simp) (fun i out m R hi hi' hf hk hol h1 h2 h3=>?_) (fun out m R ht hk hol=>?_)
  ·have hi0:i=0:=by simpa using hi
   subst hi0
   have hg:List.getD [q] 0 []=q:=rfl
   rw [hg] at h1 h2 h3
   dsimp only
   rw [decide_eq_true hi',cond_true,Int.toNat_natCast,hg]
   refine ⟨⟨by omega,hi'⟩,ZeC hB hk hol (fun h4 hn=>?_) (fun hs=>⟨hf,h1 hs⟩) (fun hn=>?_) (fun hs=>⟨hf,h2 hs⟩)⟩
   ·have hn':ZfS [q]=none:=h3 hn
    simp only [h00,Za.fn,h4,h30,Bool.or_true,cond_true]
    exact ⟨fun h=>⟨h,trivial⟩,fun h=>rfl,by rw [hres,hn']⟩
   ·have hn':ZfS [q]=none:=h3 hn
    exact ⟨fun h=>⟨h,trivial⟩,fun h=>by rw [h];rfl,by rw [hres,hn']⟩
  ·have ht':ZfS [q]=some out:=ht
   dsimp only
   rw [decide_eq_false (Int.lt_irrefl _),cond_false]
   exact ⟨fun h=>⟨h,trivial⟩,fun h=>by rw [h];rfl,by rw [hres,ht']⟩
 by_cases hE:0≤eqI V p
 ·rcases hJ with h | ⟨h1,h2,h3,h4⟩
  ·omega
  ·have hQv:eqQ V p p.length=((Zz V (p.take (eqI V p).toNat)).length:Int):=by rw [hQe,if_neg (by omega)]
   have hjp:(eqI V p).toNat < p.length:=by omega
   obtain ⟨k1,_,_⟩:=ZmB hjp h3
   have hS:ZeM p N V=some [Zd6 V p (eqI V p).toNat]:=by unfold ZeM;rw [if_pos hE]
   rw [hQv,decide_eq_true (show (0:Int)≤((Zz V (p.take (eqI V p).toNat)).length:Int) by omega),cond_true]
   obtain ⟨b1,b2⟩:=Zmr hN hV hjp h3 ((N:Int) - 1) ((ZcR V p).map (ZaB V)) ((upP V p).map (ZaB V)) ((ZkS V p).map (ZaB V))
   refine ⟨⟨⟨N - 1,hPcB _ _ _⟩,by show (0:Int)≤((Zz V (p.take (eqI V p).toNat)).length:Int);omega,by show ((Zz V (p.take (eqI V p).toNat)).length:Int) < (((Zz V p).map (ZaB V)).length:Int);rw [List.length_map];omega⟩,?_⟩
   exact one _ _ b1 b2 hS
 ·have hQv:eqQ V p p.length=-1:=by rw [hQe,if_pos (by omega)]
  rw [hQv,decide_eq_false (show ¬ (0:Int)≤-1 by omega),cond_false]
  have tried:¬ (ZkS V p=[]∧(ZcR V p=[]∨upP V p=[]))→Zi5 V p=false→∀ e,Zd9 ((N:Int) - 1) (ZbQ V p) ((Zz V p).map (ZaB V)) e ((ZcR V p).map (ZaB V)) ((upP V p).map (ZaB V)) ((ZkS V p).map (ZaB V)) (fun r=>r=Z6 p N V):=fun hA hX e=>by
   refine Zd9.spec hN hV e _ fun r hr=>?_
   have hS:ZeM p N V=if (Zbz V p).2≠0 then none else if (Zjd V p (Zbz V p).1).2≠0 then none else some (Zdd V p (N - 1) (Zbz V p).1 (Zjd V p (Zbz V p).1).1.toNat):=by
    unfold ZeM;rw [if_neg hE,if_neg hA,if_neg (by rw [hX];simp)]
   rw [hr,hsh,hS]
   split
   ·rfl
   ·split
    ·rfl
    ·rfl
  by_cases hD:ZkS V p=[]
  rotate_left
  ·have hdl:(0:Int) < ((((ZkS V p).map (ZaB V)).length:Nat):Int):=by
    rw [List.length_map]
    have:(ZkS V p).length≠0:=fun h=>hD (List.eq_nil_of_length_eq_zero h)
    omega
   rw [decide_eq_true hdl,cond_true]
   refine tried (fun h=>hD h.1) ?_ (-1)
   unfold Zi5
   cases hh:ZkS V p with
   | nil=>exact absurd hh hD
   | cons x l=>rfl
  have hdl:¬ (0:Int) < ((((ZkS V p).map (ZaB V)).length:Nat):Int):=by rw [hD];simp
  rw [decide_eq_false hdl,cond_false]
  have hlowlen:(ZcR V p).length≤400:=hle _
  have huplen:(upP V p).length≤400:=hle _
  refine Lp.iter (ZcR V p).length (fun i z=>z=(i:Int)∧∀ a,a < i→∀ b,b < (upP V p).length→Zi V ((ZcR V p).getD a Zb)=1∨Zi V ((upP V p).getD b Zb)=-1) ⟨rfl,fun a ha=>absurd ha (by omega)⟩ ?_
  rintro i z hi ⟨rfl,hdone⟩ R1 hR1
  dsimp only
  by_cases e:i < (ZcR V p).length
  ·have e':(i:Int) < ((((ZcR V p).map (ZaB V)).length:Nat):Int):=by rw [List.length_map];omega
   have hgl:((ZcR V p).map (ZaB V)).getD i ZbB=ZaB V ((ZcR V p).getD i Zb):=Zep e
   rw [decide_eq_true e',cond_true,Int.toNat_natCast,hgl]
   refine ⟨⟨by omega,e'⟩,?_⟩
   have hcx:(ZaB V ((ZcR V p).getD i Zb)).2.1=Zi V ((ZcR V p).getD i Zb):=rfl
   rw [hcx]
   refine Lp.iter (upP V p).length (fun j z=>z=(j:Int)∧∀ b,b < j→Zi V ((ZcR V p).getD i Zb)=1∨Zi V ((upP V p).getD b Zb)=-1) ⟨rfl,fun a ha=>absurd ha (by omega)⟩ ?_
   rintro j z hj ⟨rfl,hdj⟩ R2 hR2
   by_cases ej:j < (upP V p).length
   ·have ej':(j:Int) < ((((upP V p).map (ZaB V)).length:Nat):Int):=by rw [List.length_map];omega
    have hgu:((upP V p).map (ZaB V)).getD j ZbB=ZaB V ((upP V p).getD j Zb):=Zep ej
    have hcy:(ZaB V ((upP V p).getD j Zb)).2.1=Zi V ((upP V p).getD j Zb):=rfl
    rw [decide_eq_true ej',cond_true,Int.toNat_natCast,hgu,hcy]
    refine ⟨⟨by omega,ej'⟩,fun h=>⟨h,trivial⟩,fun h=>⟨h,trivial⟩,fun h=>h,?_⟩
    by_cases hb:Zi V ((ZcR V p).getD i Zb)=1∨Zi V ((upP V p).getD j Zb)=-1
    ·have hc:(Zi V ((ZcR V p).getD i Zb) != 1&&Zi V ((upP V p).getD j Zb) != -(1:Int))=false:=by
      rw [Bool.and_eq_false_iff]
      exact hb.imp (fun h=>by rw [h];rfl) (fun h=>by rw [h];rfl)
     rw [hc,cond_false]
     refine ⟨⟨by omega,by omega⟩,hR2 ej _ ⟨rfl,fun b hbj=>?_⟩⟩
     by_cases hbe:b=j
     ·subst hbe;exact hb
     ·exact hdj b (by omega)
    ·have hc:(Zi V ((ZcR V p).getD i Zb) != 1&&Zi V ((upP V p).getD j Zb) != -(1:Int))=true:=by
      simp only [not_or] at hb
      rw [Bool.and_eq_true]
      exact ⟨by simpa using hb.1,by simpa using hb.2⟩
     rw [hc,cond_true]
     refine tried (fun h=>?_) ?_ (-1)
     ·rcases h.2 with h | h
      ·rw [h] at e;simp at e
      ·rw [h] at ej;simp at ej
     ·unfold Zi5
      rw [Bool.and_eq_false_iff]
      right
      rw [List.all_eq_false]
      refine ⟨_,Zl (d:=Zb) e,?_⟩
      rw [Bool.not_eq_true,List.all_eq_false]
      refine ⟨_,Zl (d:=Zb) ej,by simpa using hb⟩
   ·have:j=(upP V p).length:=by omega
    subst this
    rw [decide_eq_false (by rw [List.length_map];omega),cond_false]
    refine ⟨⟨by omega,by omega⟩,hR1 e _ ⟨rfl,fun a ha b hb=>?_⟩⟩
    by_cases hae:a=i
    ·subst hae;exact hdj b hb
    ·exact hdone a (by omega) b hb
  ·have:i=(ZcR V p).length:=by omega
   subst this
   rw [decide_eq_false (by rw [List.length_map];omega),cond_false]
   have hpaired:Zo.fn (((N:Int) - 1,ZbQ V p,(Zz V p).map (ZaB V),(-1:Int),(ZcR V p).map (ZaB V),(upP V p).map (ZaB V),(ZkS V p).map (ZaB V)),())=[ZjJ V p]:=by
    show [ZbQ V p++((ZcR V p).map (ZaB V)).flatMap fun l=>((upP V p).map (ZaB V)).map fun u=>((0:Int),(0:Int),Zd4 l.2.1 u.2.2 (-u.2.1) l.2.2)]=_
    unfold ZjJ
    rw [List.flatMap_map]
    congr 2
    congr 1
    funext x
    rw [List.map_map]
    rfl
   have hX:Zi5 V p=true:=by
    unfold Zi5
    rw [hD,Bool.and_eq_true]
    refine ⟨rfl,List.all_eq_true.2 fun x hx=>List.all_eq_true.2 fun y hy=>?_⟩
    obtain ⟨a,ha,rfl⟩:=ZbO (d:=Zb) hx
    obtain ⟨b,hb,rfl⟩:=ZbO (d:=Zb) hy
    simpa using hdone a ha b hb
   have hS:ZeM p N V=some [ZjJ V p]:=by
    unfold ZeM
    rw [if_neg hE]
    by_cases hA:ZkS V p=[]∧(ZcR V p=[]∨upP V p=[])
    ·rw [if_pos hA]
     have:ZjJ V p=ZbQ V p:=by
      unfold ZjJ
      rcases hA.2 with h | h
      ·rw [h];simp
      ·rw [h];simp
     rw [this]
    ·rw [if_neg hA,if_pos hX]
   refine ⟨⟨N - 1,hPcB _ _ _⟩,?_⟩
   rw [hpaired]
   exact one _ _ (ZiP hN (v:=V) (by omega)).D.1 rfl hS
abbrev Za1.fn (x:Int×List Int×Unit):Zc:=(0,0,x.2.1,x.1)
abbrev ZR.fn (x:Int×Int×Unit):List Zc:=[(2,x.1,[1],x.2.1)]
abbrev Zv.fn (x:Unit):Bool:=true
def Zsz (p:List Zc) (n:Int):Int×Int:=if n < 1∨12 < n then (0,6) else if (Zbi p n).2.2≠0 then (0,(Zbi p n).2.2) else if (Zbi p n).2.1=true then (0,5) else (Zbe (Zbi p n).1 n,0)
abbrev ZaS.fn (x:List Zc×Int×Unit):Int×Int:=Zsz x.1 x.2.1
abbrev ZaQ.fn (x:List Zc×Int×Unit):Int×Int:=Zsz x.1 x.2.1
set_option maxRecDepth 4000
def ZaR.wp (x0:Int×(List (List Zc))) (x1:Int) (Q:(Int×(List (List Zc)))×Int→Prop):Prop:=let v0:=List.length (((ZV.fn (x0,())).1).2);cond (!(ZaA.fn (x0,()))) (Q (((0:Int),([]:List (List (Zc)))),(1:Int))) (((!(decide (x1 < (0:Int))))=true→((!(decide (x1 < (0:Int))))=true∧True))∧(((!(decide (x1 < (0:Int))))=true→((!(decide (x1 < (0:Int))))=true∧((!(decide (x1 < (0:Int))))=true∧True)))∧((decide (x1 < (0:Int))=false→(!(decide (x1 < (0:Int))))=true)∧cond (decide (x1 < (0:Int))||decide (x0.1≤x1)) (Q (((0:Int),([]:List (List (Zc)))),(6:Int))) (cond ((ZV.fn (x0,())).2 != (0:Int)) (Q (((0:Int),([]:List (List (Zc)))),(ZV.fn (x0,())).2)) (Lp (σ:=Int×List (List (Zc))) (fun y3 R3=>let v1:=List.getD (((ZV.fn (x0,())).1).2) (Int.toNat y3.1) ([]:List (Zc));let v2:=ZI.fn (v1,(x0.1,(x1,())));cond (decide (y3.1 < ((v0:Nat):Int))) (((0:Int)≤y3.1∧y3.1 < ((v0:Nat):Int))∧(ZI.pre (v1,(x0.1,(x1,())))∧cond (v2.2 != (0:Int)) (Q (((0:Int),([]:List (List (Zc)))),v2.2)) ((((List.length y3.2+List.length v2.1)*24)≤140737488355328∧(List.length y3.2+List.length v2.1)≤9223372036854775807)∧(Zw IntKind.i64 (y3.1+(1:Int))∧R3 ((y3.1+(1:Int)),(y3.2++v2.1)))))) (Lp (σ:=Int×(List (List (Zc)))×(ByteArray→Option Bool)) (fun y5 R5=>let v3:=List.getD y3.2 (Int.toNat y5.1) ([]:List (Zc));let v4:=Zn.fn ((Za.fn (v3,())).1,());let v6:=[(Za.fn (v3,())).1];cond (decide (y5.1 < ((List.length y3.2:Nat):Int))) (((0:Int)≤y5.1∧y5.1 < ((List.length y3.2:Nat):Int))∧(Za.pre (v3,())∧cond (((Za.fn (v3,())).2).2 != (0:Int)) (cond (((Za.fn (v3,())).2).2 != (0:Int)) (Q (((0:Int),([]:List (List (Zc)))),((Za.fn (v3,())).2).2)) (Zw IntKind.i64 (x0.1 - (1:Int))∧Q (((x0.1 - (1:Int)),([]:List (List (Zc)))),(0:Int)))) (((!(((Za.fn (v3,())).2).1))=true→((!(((Za.fn (v3,())).2).1))=true∧Zn.pre ((Za.fn (v3,())).1,())))∧(((!(((Za.fn (v3,())).2).1))=true→((!(((Za.fn (v3,())).2).1))=true∧((!(((Za.fn (v3,())).2).1))=true∧True)))∧((((Za.fn (v3,())).2).1=false→(!(((Za.fn (v3,())).2).1))=true)∧cond (((Za.fn (v3,())).2).1||(Option.getD (y5.2.2 v4) false)) (Zw IntKind.i64 (y5.1+(1:Int))∧R5 ((y5.1+(1:Int)),y5.2)) (Zn.pre ((Za.fn (v3,())).1,())∧((((List.length y5.2.1+List.length v6)*24)≤140737488355328∧(List.length y5.2.1+List.length v6)≤9223372036854775807)∧cond (decide ((400:Int) < (((List.length (y5.2.1++v6)):Nat):Int))) (Q (((0:Int),([]:List (List (Zc)))),(3:Int))) (Zw IntKind.i64 (y5.1+(1:Int))∧R5 ((y5.1+(1:Int)),((y5.2.1++v6),Zc6 y5.2.2 v4 true)))))))))) (Zw IntKind.i64 (x0.1 - (1:Int))∧Q (((x0.1 - (1:Int)),y5.2.1),(0:Int)))) ((0:Int),(([]:List (List (Zc))),fun (a5:ByteArray)=>(none:Option Bool))))) ((0:Int),([]:List (List (Zc)))))))))
def ZaO.wp (N:Nat) (x0:List Zc) (x1:Int) (x2:ByteArray→Option Bool) (Q:Bool×Int→(ByteArray→Option Bool)→Prop):Prop:=let v2:=ZO.fn (x0,(x1,()));let v3:=ZI.fn (x0,(x1,(v2,())));cond (x1 == (0:Int)) (Q (true,(0:Int)) x2) (Zn.pre (x0,())∧cond (Option.isSome (x2 (Zn.fn (x0,())))) (Q ((Option.getD (x2 (Zn.fn (x0,()))) false),(0:Int)) x2) (ZO.pre (x0,(x1,()))∧(ZI.pre (x0,(x1,(v2,())))∧cond (v3.2 != (0:Int)) (Q (false,v3.2) x2) (Lp (σ:=Int×(ByteArray→Option Bool)) (fun y5 R5=>let v4:=List.getD v3.1 (Int.toNat y5.1) ([]:List (Zc));cond (decide (y5.1 < ((List.length v3.1:Nat):Int))) (((0:Int)≤y5.1∧y5.1 < ((List.length v3.1:Nat):Int))∧(Zw IntKind.i64 (x1 - (1:Int))∧(Zds N (v4,(x1 - (1:Int))) y5.2∧∀ b7:Bool×Int,∀ b8:(ByteArray→Option Bool),(ZcJ (v4,(x1 - (1:Int))) y5.2 b7 b8→cond (b7.2 != (0:Int)) (Q (false,b7.2) b8) (cond b7.1 (Q (true,(0:Int)) (Zc6 b8 (Zn.fn (x0,())) true)) (Zw IntKind.i64 (y5.1+(1:Int))∧R5 ((y5.1+(1:Int)),b8))))))) (Q (false,(0:Int)) (Zc6 y5.2 (Zn.fn (x0,())) false))) ((0:Int),x2)))))
def Zat.wp (x0:Int×(List (List Zc))) (Q:Bool×Int→Prop):Prop:=let v0:=List.length (((ZV.fn (x0,())).1).2);cond (!(ZaA.fn (x0,()))) (Q (false,(1:Int))) (cond ((ZV.fn (x0,())).2 != (0:Int)) (Q (false,(ZV.fn (x0,())).2)) (Lp (σ:=Int×(ByteArray→Option Bool)) (fun y2 R2=>let v1:=List.getD (((ZV.fn (x0,())).1).2) (Int.toNat y2.1) ([]:List (Zc));cond (decide (y2.1 < ((v0:Nat):Int))) (((0:Int)≤y2.1∧y2.1 < ((v0:Nat):Int))∧(Zi4 (v1,x0.1) y2.2∧∀ b4:Bool×Int,∀ b5:(ByteArray→Option Bool),(ZcJ (v1,x0.1) y2.2 b4 b5→(((b4.2 != (0:Int))=false→(!(b4.2 != (0:Int)))=true)∧cond ((b4.2 != (0:Int))||b4.1) (Q (false,b4.2)) (Zw IntKind.i64 (y2.1+(1:Int))∧R2 ((y2.1+(1:Int)),b5)))))) (Q (true,(0:Int)))) ((0:Int),fun (a2:ByteArray)=>(none:Option Bool))))
def Za1.wp (x0:Int) (x1:List Int) (Q:Zc→Prop):Prop:=Q ((0:Int),((0:Int),(x1,x0)))
def ZR.wp (x0:Int) (x1:Int) (Q:(List Zc)→Prop):Prop:=Q ([((2:Int),(x0,([(1:Int)],x1)))])
def ZaS.wp (x0:List Zc) (x1:Int) (Q:Int×Int→Prop):Prop:=let v0:=ZaC.fn (x0,(x1,()));(((!(decide (x1 < (1:Int))))=true→((!(decide (x1 < (1:Int))))=true∧True))∧((decide (x1 < (1:Int))=false→(!(decide (x1 < (1:Int))))=true)∧cond (decide (x1 < (1:Int))||decide ((12:Int) < x1)) (Q ((0:Int),(6:Int))) (cond (v0.2.2 != (0:Int)) (Q ((0:Int),v0.2.2)) (cond v0.2.1 (Q ((0:Int),(5:Int))) (ZO.pre (v0.1,(x1,()))∧Q ((ZO.fn (v0.1,(x1,()))),(0:Int)))))))
def ZaQ.wp (x0:List Zc) (x1:Int) (Q:Int×Int→Prop):Prop:=let v0:=Z8.fn (x0,(x1,()));(((!(decide (x1 < (1:Int))))=true→((!(decide (x1 < (1:Int))))=true∧True))∧((decide (x1 < (1:Int))=false→(!(decide (x1 < (1:Int))))=true)∧cond (decide (x1 < (1:Int))||decide ((12:Int) < x1)) (Q ((0:Int),(6:Int))) (cond (v0.2.2 != (0:Int)) (Q ((0:Int),v0.2.2)) (cond v0.2.1 (Q ((0:Int),(5:Int))) (ZN.pre (v0.1,(x1,()))∧Q ((ZN.fn (v0.1,(x1,()))),(0:Int)))))))
def law05_ElimPicks.wp (x0:List Zc) (x1:Int) (Q:Bool→Prop):Prop:=let v0:=ZaS.fn (x0,(x1,()));let v1:=ZaQ.fn (x0,(x1,()));cond (decide ((400:Int) < ((List.length x0:Nat):Int))) (Q (Zv.fn ())) (((v0.1 == v1.1)=true→((v0.1 == v1.1)=true∧((v0.1 == v1.1)=true∧True)))∧(((v0.1 == v1.1)=true→(v0.1 == v1.1)=true)∧((((v0.1 == v1.1)&&(v0.2 == v1.2))=true→((v0.1 == v1.1)&&(v0.2 == v1.2))=true)∧Q (((v0.1 == v1.1)&&(v0.2 == v1.2))&&Zv.fn ()))))
theorem ZmU (p:List Zc) (n v:Int):(Z6 p n v).2=0∨(Z6 p n v).2=3:=by
 unfold Z6
 rcases ZaJ (ZeM p n.toNat v.toNat) with e | ⟨l,e⟩
 ·rw [e];exact .inr rfl
 ·simp only [e]
  unfold ZjK
  rcases ZaJ (ZfS l) with e | ⟨l,e⟩
  ·rw [e];exact .inr rfl
  ·rw [e];exact .inl rfl
theorem Zj9 {p:List Zc} {n v:Int} (h:¬ (Z6 p n v).2=0):(Z6 p n v).2=3:=(ZmU p n v).resolve_left h
def Zeu (n v:Int) (all:List (List Zc)) (p:List Zc):Option (List (List Zc)):=if (Z6 p n v).2≠0 then none else some (all++(Z6 p n v).1)
theorem ZjE {n v:Int} (hv0:0≤v) (hv:v < n):∀ {l a b:List (List Zc)},(∀ q∈l,pieceN q n)→l.foldlM (Zeu n v) a=some b→(∀ q∈a,ZaG q∧ZdJ q (n.toNat - 1))→b.length≤a.length+400*l.length∧∀ q∈b,ZaG q∧ZdJ q (n.toNat - 1)
 | [],a,b,_,h,ha=>by cases h;exact ⟨by simp,ha⟩
 | p::l,a,b,hl,h,ha=>by
   rw [List.foldlM_cons] at h
   obtain ⟨o,h1,h2⟩:=Option.bind_eq_some_iff.1 h
   unfold Zeu at h1
   split at h1
   ·cases h1
   ·rename_i h0
    cases h1
    obtain ⟨k1,_⟩:=Zew (hl p (by simp)) hv0 hv (by simpa using h0)
    obtain ⟨j1,j2⟩:=ZjE hv0 hv (fun q hq=>hl q (List.mem_cons_of_mem _ hq)) h2 (fun q hq=>by
     rcases List.mem_append.1 hq with hq | hq
     ·exact ha q hq
     ·exact ⟨(k1.at hq).1.B,(k1.at hq).2⟩)
    refine ⟨?_,j2⟩
    have:=k1.1.1
    simp only [List.length_append] at j1
    simp only [List.length_cons];omega
theorem ZoG (n v:Int) (l:List (List Zc)):ZkG n v l=l.foldlM (Zeu n v) []:=rfl
theorem ZhL {s:Ze2} (h:(ZaY s).2=0):Z1 s=true:=by
 cases hv:Z1 s with
 | true=>rfl
 | false=>unfold ZaY at h;rw [if_pos hv] at h;cases h
theorem ZgE {s:Ze2} (h:(ZaY s).2=0) {q:List Zc} (hq:q∈(ZaY s).1.2):pieceN q s.1:=by
 have hb:=Z1.b (ZhL h)
 have:=(ZkP h).pieceN (by omega) hq
 rwa [Int.toNat_of_nonneg hb.1] at this
theorem Zrw {s : Ze2} {v : Int} (hn : (ZaY s).2 = 0) (hv0 : 0 ≤ v) (hv : v < s.1) {body : Int × List (List Zc) → (Int × List (List Zc) → Prop) → Prop}
 (h:∀ (i:Nat) (t:List (List Zc)) (R:Int×List (List Zc)→Prop),(i:Int) < ((ZaY s).1.2.length:Int)→Zw .i64 ((i:Int)+1)→ZI.pre ((ZaY s).1.2.getD i [],s.1,v,()) →
  (Zh1 s v=((0,[]),3)→(Z6 ((ZaY s).1.2.getD i []) s.1 v).2≠0→(Z6 ((ZaY s).1.2.getD i []) s.1 v).2=3→body ((i:Int),t) R) ∧
  ((Z6 ((ZaY s).1.2.getD i []) s.1 v).2=0→t.length+(Z6 ((ZaY s).1.2.getD i []) s.1 v).1.length≤4194304→R ((i:Int)+1,t++(Z6 ((ZaY s).1.2.getD i []) s.1 v).1)→body ((i:Int),t) R))
 (h2:∀ (t:List (List Zc)) (R:Int×List (List Zc)→Prop),Zh1 s v=Zhx (s.1 - 1) (ZfS t)→t.length≤4194304→(∀ q∈t,ZaG q∧ZdJ q (s.1.toNat - 1))→body (((ZaY s).1.2.length:Int),t) R):Lp body (0,[]):=by
 have hval:=ZhL hn
 have hE:Zh1 s v=match ZkG s.1 v (ZaY s).1.2 with
  | none=>((0,[]),3)
  | some all=>Zhx (s.1 - 1) (ZfS all):=by
  unfold Zh1
  rw [if_neg (by rw [hval];simp),if_neg (by omega),if_neg (by omega)]
  cases ZkG s.1 v (ZaY s).1.2<;>rfl
 have hlen:(ZaY s).1.2.length≤400:=(ZkP hn).1.1
 have hall:∀ q∈(ZaY s).1.2,pieceN q s.1:=fun q hq=>ZgE hn hq
 rw [ZoG] at hE
 refine Lp.foldO (ZaY s).1.2 [] (Zeu s.1 v) [] (by omega) (fun i t R hi hi' hf ht hs hno=>?_) (fun t R ht=>?_)
 ·have hq:=Zl (d:=[]) hi
  obtain ⟨g1,g2⟩:=h i t R hi' hf ⟨hall _ hq,hv0,hv⟩
  have htk:=(ZjE hv0 hv (fun q hq=>hall q (List.mem_of_mem_take hq)) ht (by simp)).1
  have:((ZaY s).1.2.take i).length≤400:=by rw [List.length_take];omega
  simp only [List.length_nil] at htk
  by_cases h0:(Z6 ((ZaY s).1.2.getD i []) s.1 v).2=0
  ·have hl:=(Zew (hall _ hq) hv0 hv h0).1.1.1
   refine g2 h0 (by omega) (hs _ ?_)
   unfold Zeu
   rw [if_neg (by omega)]
  ·refine g1 ?_ h0 (Zj9 h0)
   rw [hE,hno (by unfold Zeu;rw [if_pos h0])]
 ·obtain ⟨k1,k2⟩:=ZjE hv0 hv hall ht (by simp)
  simp only [List.length_nil] at k1
  exact h2 t R (by rw [hE,ht]) (by omega) k2
theorem ZaR.spec (s:Ze2) (v:Int):ZaR.wp s v (fun r=>r=ZaR.fn (s,v,())):=by
 unfold ZaR.wp
 dsimp only
 rw [show ZaR.fn (s,v,())=Zh1 s v from rfl,show ZaA.fn (s,())=Z1 s from rfl,show ZV.fn (s,())=ZaY s from rfl]
 cases hval:Z1 s with
 | false =>
   simp only [Bool.not_false,cond_true]
   unfold Zh1;rw [if_pos hval]
 | true =>
   have hb:=Z1.b hval
   simp only [Bool.not_true,cond_false]
   refine ⟨fun h=>⟨h,trivial⟩,fun h=>⟨h,h,trivial⟩,fun h=>by rw [h];rfl,?_⟩
   by_cases hr:v < 0∨s.1≤v
   ·rw [show (decide (v < 0)||decide (s.1≤v))=true by rw [← Bool.decide_or,decide_eq_true hr],cond_true]
    unfold Zh1;rw [if_neg (by rw [hval];simp),if_pos hr]
   ·rw [show (decide (v < 0)||decide (s.1≤v))=false by rw [← Bool.decide_or,decide_eq_false hr],cond_false]
    by_cases hn:(ZaY s).2=0
    ·rw [show ((ZaY s).2 != 0)=false by rw [hn];rfl,cond_false]
     refine Zrw hn (v:=v) (by omega) (by omega) (fun i t R hi hf hp=>⟨fun h1 h2 h3=>?_,fun h1 h2 hR=>?_⟩) (fun t R ht htl htp=>?_)
     ·dsimp only
      rw [decide_eq_true hi,cond_true,Int.toNat_natCast]
      refine ⟨⟨by omega,hi⟩,hp,?_⟩
      rw [show ZI.fn ((ZaY s).1.2.getD i [],s.1,v,())=Z6 ((ZaY s).1.2.getD i []) s.1 v from rfl,bne_iff_ne.2 h2,cond_true,h3,h1]
     ·dsimp only
      rw [decide_eq_true hi,cond_true,Int.toNat_natCast]
      refine ⟨⟨by omega,hi⟩,hp,?_⟩
      rw [show ZI.fn ((ZaY s).1.2.getD i [],s.1,v,())=Z6 ((ZaY s).1.2.getD i []) s.1 v from rfl,h1,show ((0:Int) != 0)=false from rfl,cond_false]
      exact ⟨⟨by omega,by omega⟩,hf,hR⟩
     ·dsimp only
      rw [decide_eq_false (Int.lt_irrefl _),cond_false]
      have hfits:Zw IntKind.i64 (s.1 - 1):=⟨by omega,by omega⟩
      refine Lp.tid t [] _ ZeF.nil (by simp) (by omega) (fun i out m R hi hi' hf hk hol h1 h2 h3=>?_) (fun out m R ht2 hk hol=>?_)
      ·dsimp only
       rw [decide_eq_true hi',cond_true,Int.toNat_natCast]
       have hres:=fun hn=>ht.trans (show Zhx (s.1 - 1) (ZfS t)=((0,[]),3) by rw [show ZfS t=none from h3 hn];rfl)
       refine ⟨⟨by omega,hi'⟩,ZeC (htp _ (Zl hi)).1 hk hol (fun h4 hn=>?_) (fun hs=>⟨hf,h1 hs⟩) (fun hn=>?_) (fun hs=>⟨hf,h2 hs⟩)⟩
       ·simp only [Za.fn,h4,show ((3:Int) != 0)=true from rfl,cond_true]
        rw [hres hn]
       ·rw [hres hn]
      ·dsimp only
       rw [decide_eq_false (Int.lt_irrefl _),cond_false]
       exact ⟨hfits,by rw [ht,show ZfS t=some out from ht2];rfl⟩
    ·rw [bne_iff_ne.2 hn,cond_true]
     unfold Zh1;rw [if_neg (by rw [hval];simp),if_neg hr,if_pos hn]
end Go.Proofs.YtgpdnmfpgkkgcaaGreatDoor
