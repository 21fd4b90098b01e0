/- Part of a proof that a law of the program holds for every input: what the functions answer, in plain Lean. No conditions. -/
import Derived.Below
import Derived.Carry
import Derived.ChangeOld
import Derived.LaidMore
import Derived.Lib.LaidTab
import Derived.OpenShut
import Derived.ProofKit
import Derived.ShutString
import Derived.SizedLaws
import Derived.Stop.Joined
import Derived.WalkKit
import Derived.Test.YtgpdnmfpgkkgcaaGreatDoorP13
namespace Go.Proofs.YtgpdnmfpgkkgcaaGreatDoor
open Go
set_option linter.unusedVariables false
theorem Zjb {f:List Zc→Bool×Int} {l:List (List Zc)} {i:Nat} (hi:i < l.length):ZeL f (l.drop i)=if (f (l.getD i [])).1=true∨(f (l.getD i [])).2≠0 then f (l.getD i []) else ZeL f (l.drop (i+1)):=by
 have:l.drop i=l.getD i []::l.drop (i+1):=by
  rw [List.getD_eq_getElem?_getD,List.getElem?_eq_getElem hi]
  simp
 rw [this];rfl
theorem Zjq (k:Nat) (p:List Zc):Zb8 (k+1) p=if (Z6 p ((k+1:Nat):Int) (Zbe p ((k+1:Nat):Int))).2≠0 then (false,(Z6 p ((k+1:Nat):Int) (Zbe p ((k+1:Nat):Int))).2) else ZeL (Zb8 k) (Z6 p ((k+1:Nat):Int) (Zbe p ((k+1:Nat):Int))).1:=rfl
theorem pieceN.shadow {p:List Zc} {k:Nat} {v:Int} (h:pieceN p ((k+1:Nat):Int)) (hv0:0≤v) (hv:v < ((k+1:Nat):Int)) (h0:(Z6 p ((k+1:Nat):Int) v).2=0) {q:List Zc} (hq:q∈(Z6 p ((k+1:Nat):Int) v).1):pieceN q (k:Int):=by
 have h1:=(Zew h hv0 hv h0).1
 have h2:(((k+1:Nat):Int)).toNat - 1=k:=by omega
 rw [h2] at h1
 exact h1.pieceN (by have:=h.2.2.2;omega) hq
theorem pieceN.nameOk {p:List Zc} {n:Int} (h:pieceN p n):nameOk p:=by
 obtain ⟨h1,h2,h3,h4⟩:=h
 exact ZgI.name ⟨by omega,fun c hc=>(h2 c hc).1⟩
theorem Zt7:ZfS [[]]=some [[]]:=by decide
theorem Zms (n v:Int):Z6 [] n v=([[]],0):=by
 unfold Z6
 have:ZeM [] n.toNat v.toNat=some [[]]:=by
  unfold ZeM
  rw [show eqI v.toNat []=-1 from rfl,if_neg (show ¬ (0:Int)≤-1 by decide),if_pos ⟨rfl,.inl rfl⟩]
  rfl
 rw [this]
 show ZjK [[]]=_
 unfold ZjK
 rw [Zt7]
theorem Zlc:∀ n,Zb8 n []=(true,0)
 | 0=>rfl
 | n+1=>by
   rw [Zjq,Zms]
   rw [if_neg (fun h=>h rfl)]
   show (if (Zb8 n []).1=true∨(Zb8 n []).2≠0 then Zb8 n [] else ZeL (Zb8 n) [])=_
   rw [Zlc n]
   rfl
theorem ZpY.put {m:ByteArray→Option Bool} (h:ZpY m) {p:List Zc} {n:Int} {b:Bool} (hp:pieceN p n) (hn:1≤n) (hb:Zb8 n.toNat p=(b,0)):ZpY (Zc6 m (ZbA (Zb4 p)) b):=by
 intro q k c hq hk h1
 by_cases e:q=p
 ·subst e
  have:some b=some c:=by
   rw [← hq];unfold Zc6;rw [if_pos rfl]
  have hbc:b=c:=by injection this
  subst hbc
  cases q with
  | nil =>
    rw [Zlc] at hb ⊢
    exact hb
  | cons a l =>
    have h2:=(hp.2.1 a (by simp)).2
    have h3:=(hk.2.1 a (by simp)).2
    rw [← h3,h2]
    exact hb
 ·refine h q k c ?_ hk h1
  rw [← hq]
  unfold Zc6
  rw [if_neg]
  intro h;exact e (Zn7.1 h)
theorem ZpY.nil:ZpY (fun _=>none):=fun p n b h=>by cases h
theorem ZaO.spec (N:Nat) (p:List Zc) (n:Int) (m:ByteArray→Option Bool) (hp:Zds (N+1) (p,n) m):ZaO.wp N p n m (fun r m'=>ZcJ (p,n) m r m'):=by
 obtain ⟨⟨hp,hm⟩,hN⟩:=hp
 simp only at hp hN
 unfold ZaO.wp
 dsimp only
 rw [show ZO.fn (p,n,())=Zbe p n from rfl,show ZI.fn (p,n,Zbe p n,())=Z6 p n (Zbe p n) from rfl,show Zn.fn (p,())=ZbA (Zb4 p) from rfl]
 have ok0:∀ (r:Bool×Int) (m':ByteArray→Option Bool),ZpY m'→Zb8 n.toNat p=r→r.2=0→ZcJ (p,n) m r m':=by
  intro r m' h h1 h2
  refine ⟨?_,h⟩
  simp only
  rw [h1,if_neg (fun h=>h h2)]
 by_cases h0:n=0
 ·subst h0
  rw [show ((0:Int) == 0)=true from rfl,cond_true]
  exact ok0 _ _ hm rfl rfl
 ·rw [beq_eq_false_iff_ne.2 h0,cond_false]
  obtain ⟨k,rfl⟩:∃ k:Nat,n=((k+1:Nat):Int):=⟨(n - 1).toNat,by have:=hp.2.2.1;omega⟩
  obtain ⟨c1,c2⟩:=Zpd hp (by omega)
  refine ⟨hp.nameOk,?_⟩
  rcases ZaJ (m (ZbA (Zb4 p))) with hmn | ⟨b,hmb⟩
  ·rw [hmn,show (none:Option Bool).isSome=false from rfl,cond_false]
   refine ⟨hp,⟨hp,c1,c2⟩,?_⟩
   have hsN:=Zjq k p
   have hsp:(Z6 p ((k+1:Nat):Int) (Zbe p ((k+1:Nat):Int))).2=0→∀ q∈(Z6 p ((k+1:Nat):Int) (Zbe p ((k+1:Nat):Int))).1,pieceN q (k:Int):=fun h q hq=>hp.shadow c1 c2 h hq
   have hlen:(Z6 p ((k+1:Nat):Int) (Zbe p ((k+1:Nat):Int))).2=0→(Z6 p ((k+1:Nat):Int) (Zbe p ((k+1:Nat):Int))).1.length≤400:=fun h=>(Zew hp c1 c2 h).1.1.1
   obtain ⟨sh,hsh⟩:∃ sh,Z6 p ((k+1:Nat):Int) (Zbe p ((k+1:Nat):Int))=sh:=⟨_,rfl⟩
   rw [hsh] at hsp hlen hsN ⊢
   have hk1:((k+1:Nat):Int) - 1=(k:Int):=by omega
   rw [hk1]
   rw [Int.toNat_natCast] at ok0
   by_cases he:sh.2=0
   ·rw [show (sh.2 != 0)=false by rw [he];rfl,cond_false]
    rw [if_neg (fun h=>h he)] at hsN
    have hlen:=hlen he
    have hsp:=hsp he
    refine Lp.iter sh.1.length (fun i z=>z.1=(i:Int)∧ZeL (Zb8 k) sh.1=ZeL (Zb8 k) (sh.1.drop i)∧ZpY z.2) ⟨rfl,rfl,hm⟩ ?_
    rintro i ⟨z,mz⟩ hi ⟨hzi,hz,hmz⟩ R hR
    simp only at hzi hz hmz
    subst hzi
    dsimp only
    by_cases e:i < sh.1.length
    ·have e':(i:Int) < ((sh.1.length:Nat):Int):=by omega
     rw [decide_eq_true e',cond_true,Int.toNat_natCast]
     have hq:=hsp _ (Zl (d:=[]) e)
     rw [Zjb e] at hz
     obtain ⟨q,hqe⟩:∃ q,sh.1.getD i []=q:=⟨_,rfl⟩
     rw [hqe] at hq hz ⊢
     refine ⟨⟨by omega,e'⟩,⟨by have:=hp.2.2.2;omega,by have:=hp.2.2.2;omega⟩,⟨⟨hq,hmz⟩,by show (k:Int) < _;omega⟩,fun r mr hpost=>?_⟩
     obtain ⟨hr,hmr⟩:=hpost
     simp only [Int.toNat_natCast] at hr
     by_cases hre:(Zb8 k q).2=0
     ·rw [if_neg (fun h=>h hre)] at hr
      rw [← hr] at hz hre
      rw [show (r.2 != 0)=false by rw [hre];rfl,cond_false]
      by_cases hr1:r.1=true
      ·rw [if_pos (.inl hr1)] at hz
       rw [hr1,cond_true]
       have hs:Zb8 (k+1) p=(true,0):=by rw [hsN,hz,← hr1,← hre]
       exact ok0 _ _ (hmr.put hp (by omega) (by rw [Int.toNat_natCast];exact hs)) hs rfl
      ·rw [if_neg (fun h=>h.elim hr1 (fun h=>h hre))] at hz
       rw [show r.1=false by simpa using hr1,cond_false]
       exact ⟨⟨by omega,by omega⟩,hR e _ ⟨by simp,hz,hmr⟩⟩
     ·rw [if_pos hre] at hr
      rw [if_pos (.inr hre)] at hz
      rw [hr,bne_iff_ne.2 hre,cond_true]
      refine ⟨?_,hmr⟩
      simp only [Int.toNat_natCast]
      rw [hsN,hz,if_pos hre]
    ·have:i=sh.1.length:=by omega
     subst this
     rw [decide_eq_false (Int.lt_irrefl _),cond_false]
     have hs:Zb8 (k+1) p=(false,0):=by rw [hsN,hz,List.drop_length];rfl
     exact ok0 _ _ (hmz.put hp (by omega) (by rw [Int.toNat_natCast];exact hs)) hs rfl
   ·rw [bne_iff_ne.2 he,cond_true]
    rw [if_pos he] at hsN
    refine ⟨?_,hm⟩
    simp only [Int.toNat_natCast]
    rw [hsN,if_pos he]
  ·rw [hmb,show (some b).isSome=true from rfl,cond_true]
   have:=hm p _ b hmb hp (by omega)
   exact ok0 _ _ hm this rfl
theorem Zat.spec (s:Ze2):Zat.wp s (fun r=>r=Zat.fn (s,())):=by
 unfold Zat.wp
 dsimp only
 rw [show Zat.fn (s,())=Zgw s from rfl,show ZaA.fn (s,())=Z1 s from rfl,show ZV.fn (s,())=ZaY s from rfl]
 cases hval:Z1 s with
 | false =>
   simp only [Bool.not_false,cond_true]
   unfold Zgw;rw [if_pos hval]
 | true =>
   simp only [Bool.not_true,cond_false]
   by_cases hn:(ZaY s).2=0
   ·rw [show ((ZaY s).2 != 0)=false by rw [hn];rfl,cond_false]
    have hE:Zgw s=if (ZeL (Zb8 s.1.toNat) (ZaY s).1.2).1=true∨(ZeL (Zb8 s.1.toNat) (ZaY s).1.2).2≠0 then (false,(ZeL (Zb8 s.1.toNat) (ZaY s).1.2).2) else (true,0):=by
     unfold Zgw
     rw [if_neg (by rw [hval];simp),if_neg (fun h=>h hn)]
    have hlen:(ZaY s).1.2.length≤400:=(ZkP hn).1.1
    have hall:∀ q∈(ZaY s).1.2,pieceN q s.1:=fun q hq=>ZgE hn hq
    obtain ⟨l,hl⟩:∃ l,(ZaY s).1.2=l:=⟨_,rfl⟩
    rw [hl] at hE hlen hall ⊢
    refine Lp.iter l.length (fun i z=>z.1=(i:Int)∧ZeL (Zb8 s.1.toNat) l=ZeL (Zb8 s.1.toNat) (l.drop i)∧ZpY z.2) ⟨rfl,rfl,ZpY.nil⟩ ?_
    rintro i ⟨z,mz⟩ hi ⟨hzi,hz,hmz⟩ R hR
    simp only at hzi hz hmz
    subst hzi
    dsimp only
    by_cases e:i < l.length
    ·have e':(i:Int) < ((l.length:Nat):Int):=by omega
     rw [decide_eq_true e',cond_true,Int.toNat_natCast]
     have hq:=hall _ (Zl (d:=[]) e)
     rw [Zjb e] at hz
     obtain ⟨q,hqe⟩:∃ q,l.getD i []=q:=⟨_,rfl⟩
     rw [hqe] at hq hz ⊢
     refine ⟨⟨by omega,e'⟩,⟨hq,hmz⟩,fun r mr hpost=>?_⟩
     obtain ⟨hr,hmr⟩:=hpost
     simp only at hr
     refine ⟨fun h=>by rw [h];rfl,?_⟩
     by_cases hre:(Zb8 s.1.toNat q).2=0
     ·rw [if_neg (fun h=>h hre)] at hr
      rw [← hr] at hz hre
      rw [show (r.2 != 0)=false by rw [hre];rfl,Bool.false_or]
      by_cases hr1:r.1=true
      ·rw [if_pos (.inl hr1)] at hz
       rw [hr1,cond_true,hE,if_pos (.inl (by rw [hz];exact hr1)),hz]
      ·rw [if_neg (fun h=>h.elim hr1 (fun h=>h hre))] at hz
       rw [show r.1=false by simpa using hr1,cond_false]
       exact ⟨⟨by omega,by omega⟩,hR e _ ⟨by simp,hz,hmr⟩⟩
     ·rw [if_pos hre] at hr
      rw [if_pos (.inr hre)] at hz
      rw [hr,bne_iff_ne.2 hre,Bool.true_or,cond_true,hE,if_pos (.inr (by rw [hz];exact hre)),hz]
    ·have:i=l.length:=by omega
     subst this
     rw [List.drop_length] at hz
     rw [decide_eq_false (Int.lt_irrefl _),cond_false,hE,hz,if_neg]
     rintro (h | h)
     ·cases h
     ·exact h rfl
   ·rw [bne_iff_ne.2 hn,cond_true]
    unfold Zgw;rw [if_neg (by rw [hval];simp),if_pos hn]
set_option maxRecDepth 4000
def Zv.wp  (Q:Bool→Prop):Prop:=let v2:=ZaR.fn (((2:Int),[([((1:Int),((0:Int),(([(-(1:Int)),(2:Int)]),(0:Int))))])]),((1:Int),()));let v4:=Zao.fn (v2.1,(((1:Int),[(ZR.fn ((2:Int),((0:Int),())))]),()));let v9:=ZaR.fn (((2:Int),[[(Za1.fn ((0:Int),(([(-(1:Int)),(3:Int)]),()))),(Za1.fn ((1:Int),(([(1:Int),(-(3:Int))]),())))]]),((1:Int),()));let v12:=Zao.fn (v9.1,(((1:Int),[(ZR.fn ((3:Int),((0:Int),()))),(ZR.fn ((3:Int),((1:Int),())))]),()));let v14:=Zat.fn (((1:Int),[[(Za1.fn ((0:Int),([(1:Int)],())))]]),());let v17:=Zat.fn (((1:Int),[[(Za1.fn ((-(1:Int)),([(2:Int)],()))),(Za1.fn ((1:Int),([(-(2:Int))],())))]]),());(((v2.2 == (0:Int))=true→((v2.2 == (0:Int))=true∧True))∧(((v2.2 == (0:Int))=true→((v2.2 == (0:Int))=true∧True))∧(((v2.2 == (0:Int))=true→((v2.2 == (0:Int))=true∧True))∧(((v2.2 == (0:Int))=true→((v2.2 == (0:Int))=true∧((v2.2 == (0:Int))=true∧True)))∧(((v2.2 == (0:Int))=true→(v2.2 == (0:Int))=true)∧((((v2.2 == (0:Int))&&v4)=true→(((v2.2 == (0:Int))&&v4)=true∧True))∧((((v2.2 == (0:Int))&&v4)=true→((v2.2 == (0:Int))&&v4)=true)∧(((((v2.2 == (0:Int))&&v4)&&(v9.2 == (0:Int)))=true→((((v2.2 == (0:Int))&&v4)&&(v9.2 == (0:Int)))=true∧True))∧(((((v2.2 == (0:Int))&&v4)&&(v9.2 == (0:Int)))=true→((((v2.2 == (0:Int))&&v4)&&(v9.2 == (0:Int)))=true∧True))∧(((((v2.2 == (0:Int))&&v4)&&(v9.2 == (0:Int)))=true→((((v2.2 == (0:Int))&&v4)&&(v9.2 == (0:Int)))=true∧((((v2.2 == (0:Int))&&v4)&&(v9.2 == (0:Int)))=true∧True)))∧(((((v2.2 == (0:Int))&&v4)&&(v9.2 == (0:Int)))=true→((((v2.2 == (0:Int))&&v4)&&(v9.2 == (0:Int)))=true∧True))∧(((((v2.2 == (0:Int))&&v4)&&(v9.2 == (0:Int)))=true→((((v2.2 == (0:Int))&&v4)&&(v9.2 == (0:Int)))=true∧((((v2.2 == (0:Int))&&v4)&&(v9.2 == (0:Int)))=true∧True)))∧(((((v2.2 == (0:Int))&&v4)&&(v9.2 == (0:Int)))=true→(((v2.2 == (0:Int))&&v4)&&(v9.2 == (0:Int)))=true)∧((((((v2.2 == (0:Int))&&v4)&&(v9.2 == (0:Int)))&&v12)=true→(((((v2.2 == (0:Int))&&v4)&&(v9.2 == (0:Int)))&&v12)=true∧True))∧((((((v2.2 == (0:Int))&&v4)&&(v9.2 == (0:Int)))&&v12)=true→((((v2.2 == (0:Int))&&v4)&&(v9.2 == (0:Int)))&&v12)=true)∧(((((((v2.2 == (0:Int))&&v4)&&(v9.2 == (0:Int)))&&v12)&&(!v14.1))=true→((((((v2.2 == (0:Int))&&v4)&&(v9.2 == (0:Int)))&&v12)&&(!v14.1))=true∧True))∧(((((((v2.2 == (0:Int))&&v4)&&(v9.2 == (0:Int)))&&v12)&&(!v14.1))=true→(((((v2.2 == (0:Int))&&v4)&&(v9.2 == (0:Int)))&&v12)&&(!v14.1))=true)∧((((((((v2.2 == (0:Int))&&v4)&&(v9.2 == (0:Int)))&&v12)&&(!v14.1))&&(v14.2 == (0:Int)))=true→((((((v2.2 == (0:Int))&&v4)&&(v9.2 == (0:Int)))&&v12)&&(!v14.1))&&(v14.2 == (0:Int)))=true)∧(((((((((v2.2 == (0:Int))&&v4)&&(v9.2 == (0:Int)))&&v12)&&(!v14.1))&&(v14.2 == (0:Int)))&&v17.1)=true→((((((((v2.2 == (0:Int))&&v4)&&(v9.2 == (0:Int)))&&v12)&&(!v14.1))&&(v14.2 == (0:Int)))&&v17.1)=true∧True))∧(((((((((v2.2 == (0:Int))&&v4)&&(v9.2 == (0:Int)))&&v12)&&(!v14.1))&&(v14.2 == (0:Int)))&&v17.1)=true→(((((((v2.2 == (0:Int))&&v4)&&(v9.2 == (0:Int)))&&v12)&&(!v14.1))&&(v14.2 == (0:Int)))&&v17.1)=true)∧Q ((((((((v2.2 == (0:Int))&&v4)&&(v9.2 == (0:Int)))&&v12)&&(!v14.1))&&(v14.2 == (0:Int)))&&v17.1)&&(v17.2 == (0:Int)))))))))))))))))))))))
theorem Ztm:Zh1 (2,[[(1,0,[-1,2],0)]]) 1=((1,[[(2,2,[1],0)]]),0):=by kernel_rfl
theorem Ztz:Zh1 (2,[[(0,0,[-1,3],0),(0,0,[1,-3],1)]]) 1=((1,[[(2,3,[1],0)],[(2,3,[1],1)]]),0):=by kernel_rfl
theorem Zt3:Zgw (1,[[(0,0,[1],0)]])=(false,0):=by kernel_rfl
theorem Zt2:Zgw (1,[[(0,0,[2],-1),(0,0,[-2],1)]])=(true,0):=by kernel_rfl
theorem Zv.spec:Zv.wp (fun r=>r=Zv.fn ()):=by
 simp only [Zv.wp,ZaR.fn,Zat.fn,Za1.fn,ZR.fn,Zao.fn,Ztm,Ztz,Zt3,Zt2,Zv.fn]
 simp
theorem Za1.spec (k:Int) (l:List Int):Za1.wp k l (fun r=>r=Za1.fn (k,l,())):=rfl
theorem ZR.spec (m k:Int):ZR.wp m k (fun r=>r=ZR.fn (m,k,())):=rfl
theorem ZkN {p:List Zc} {n:Int} (hn:¬ (n < 1∨12 < n)) (h2:(Zbi p n).2.2=0) (h3:¬ (Zbi p n).2.1=true):pieceN (Zbi p n).1 n:=by
 unfold Zbi at *
 rw [if_neg (by omega)] at *
 split at h2
 ·cases h2
 ·rename_i hl
  rw [if_neg hl] at h3 ⊢
  split at h2
  ·cases h2
  ·rename_i hv
   rw [if_neg hv] at h3 ⊢
   split at h2
   ·cases h2
   ·rename_i ho
    rw [if_neg ho] at h3 ⊢
    have hv':∀ c∈p,Zf c=true:=fun c hc=>by
     cases h:Zf c with
     | true=>rfl
     | false=>exact absurd (List.any_eq_true.2 ⟨c,hc,by rw [h];rfl⟩) hv
    have hd:ZdJ p n.toNat:=fun c hc=>by
     have h4:Ze0 p n=true:=by simpa using ho
     unfold Ze0 at h4
     have h5:=List.all_eq_true.1 h4 c hc
     simp at h5
     omega
    have hB:ZaG p∧ZdJ p n.toNat:=⟨⟨by omega,fun c hc=>Zf.condB (hv' c hc)⟩,hd⟩
    have hs:ZfS [p]=some [(ZaH p).1]:=by
     show [p].foldlM Zap []=_
     rw [List.foldlM_cons]
     have:Zap [] p=some [(ZaH p).1]:=by
      unfold Zap
      rw [if_neg (fun h=>h h2),if_neg (fun h=>h.elim h3 (fun h=>by cases h)),if_neg (by simp)]
      rfl
     rw [this];rfl
    have:=(PD.of_tid (n:=n.toNat) (fun q hq=>by simp only [List.mem_singleton] at hq;subst hq;exact hB) hs).1.pieceN (by omega) (List.mem_singleton.2 rfl)
    rwa [Int.toNat_of_nonneg (by omega)] at this
theorem ZaS.spec (p:List Zc) (n:Int):ZaS.wp p n (fun r=>r=ZaS.fn (p,n,())):=by
 unfold ZaS.wp
 dsimp only
 rw [show ZaC.fn (p,n,())=Zbi p n from rfl,show ZaS.fn (p,n,())=Zsz p n from rfl]
 refine ⟨fun h=>⟨h,trivial⟩,fun h=>by rw [h];rfl,?_⟩
 unfold Zsz
 by_cases h1:n < 1∨12 < n
 ·rw [show (decide (n < 1)||decide (12 < n))=true by rw [← Bool.decide_or,decide_eq_true h1],cond_true,if_pos h1]
 ·rw [show (decide (n < 1)||decide (12 < n))=false by rw [← Bool.decide_or,decide_eq_false h1],cond_false,if_neg h1]
  by_cases h2:(Zbi p n).2.2=0
  ·rw [show ((Zbi p n).2.2 != 0)=false by rw [h2];rfl,cond_false,if_neg (fun h=>h h2)]
   by_cases h3:(Zbi p n).2.1=true
   ·rw [h3,cond_true,if_pos rfl]
   ·rw [show (Zbi p n).2.1=false by simpa using h3,cond_false,if_neg (by simp)]
    exact ⟨ZkN h1 h2 h3,rfl⟩
  ·rw [bne_iff_ne.2 h2,cond_true,if_pos h2]
theorem ZaQ.spec (p:List Zc) (n:Int):ZaQ.wp p n (fun r=>r=ZaQ.fn (p,n,())):=ZaS.spec p n
theorem law05_ElimPicks.spec (p:List Zc) (n:Int):law05_ElimPicks.wp p n (fun r=>r=true):=by
 simp only [law05_ElimPicks.wp,ZaS.fn,ZaQ.fn,Zv.fn]
 cases decide (400 < ((p.length:Nat):Int))<;>simp
abbrev Zrk:Ty:=.pair (.int .i64) (.pair (.int .i64) (.pair (.sl (.int .i64)) (.int .i64)))
def asD (T:Ty):V→Option (List T.den)
 | .d (.sl t) l=>if h:t=T then some (h▸l) else none
 | _=>none
theorem ZuD {T:Ty} {v:V} {l:List T.den} (h:asD T v=some l):v=.d (.sl T) l:=by
 unfold asD at h
 split at h
 ·split at h
  ·rename_i e;subst e;cases h;rfl
  ·cases h
 ·cases h
theorem Zr8 {k:IntKind} {v:V} {n:Int} (h:Zo4 k [v]=some n):v=.d (.int k) n:=by
 unfold Zo4 at h
 split at h
 ·rename_i k' m e
  cases e
  split at h
  ·rename_i e2;have:=Zks e2;subst this;cases h;rfl
  ·cases h
 ·cases h
def ZpI (g:Nat) (vs:List V) (os:Zaf):Option (List Nat×(Ty.den (.sl Zrk)×Int)×(ByteArray→Option Bool)):=match vs with
 | [p,n,.ref a 0,.ref b 0]=>match asD Zrk p with
   | some p=>match Zo4 .i64 [n] with
     | some n=>match Zs a os with
       | some (.box [.map m])=>match Zs b os with
         | some (.box [.fn (.func h) [] [.ref c 0,.ref d 0]])=>match Nat.beq h g&&(Nat.beq c a&&Nat.beq d b) with
           | true=>match Zs m os with
             | some (.smap .bool f)=>some ([a,b,m],(p,n),f)
             | _=>none
           | false=>none
         | _=>none
       | _=>none
     | none=>none
   | none=>none
 | _=>none
def ZmI (g:Nat) (os:Zaf):Option (ByteArray→Option Bool):=match Zs 0 os with
 | some (.box [.map 2])=>match Zs 1 os with
   | some (.box [.fn (.func h) [] [.ref 0 0,.ref 1 0]])=>match Nat.beq h g with
     | true=>match Zs 2 os with
       | some (.smap .bool f)=>some f
       | _=>none
     | false=>none
   | _=>none
 | _=>none
def Zpg (g:Nat) (pre:Ty.den (.sl Zrk)×Int→(ByteArray→Option Bool)→Prop) (post:Ty.den (.sl Zrk)×Int→(ByteArray→Option Bool)→Bool×Int→(ByteArray→Option Bool)→Prop):ZoB :=
 ⟨Ty.den (.sl Zrk)×Int,ByteArray→Option Bool,[.bool,.int .i64],3,fun a=>[.d (.sl Zrk) a.1,.d (.int .i64) a.2,.ref 0 0,.ref 1 0],fun f=>[(0,.box [.map 2]),(1,.box [.fn (.func g) [] [.ref 0 0,.ref 1 0]]),(2,.smap .bool f)],
  ZpI g,ZmI g,pre,post,[2,0],[2]⟩
theorem Zko (g:Nat) (pre:Ty.den (.sl Zrk)×Int→(ByteArray→Option Bool)→Prop) (post:Ty.den (.sl Zrk)×Int→(ByteArray→Option Bool)→Bool×Int→(ByteArray→Option Bool)→Prop):(Zpg g pre post).Law where
 get:=by
  intro vs os ks a b h
  change ZpI g vs os=some (ks,a,b) at h
  unfold ZpI at h
  split at h
  ·rename_i p n A B
   split at h
   ·rename_i p' hp
    split at h
    ·rename_i n' hn
     split at h
     ·rename_i m hA
      split at h
      ·rename_i h' c d hB
       split at h
       ·rename_i hE
        split at h
        ·rename_i f hM
         cases h
         have hp:=ZuD hp
         have hn:=Zr8 hn
         subst hp hn
         rw [Bool.and_eq_true,Bool.and_eq_true] at hE
         obtain ⟨e1,e2,e3⟩:=hE
         have e1:=Nat.eq_of_beq_eq_true e1
         have e2:=Nat.eq_of_beq_eq_true e2
         have e3:=Nat.eq_of_beq_eq_true e3
         subst e1 e2 e3
         have n1:c≠d:=fun e=>by subst e;rw [hA] at hB;cases hB
         have n2:m≠c:=fun e=>by subst e;rw [hA] at hM;cases hM
         have n3:m≠d:=fun e=>by subst e;rw [hB] at hM;cases hM
         have nb:∀ {x y:Nat},x≠y→Nat.beq x y=false:=fun {x y} h=>by
          cases e:Nat.beq x y with
          | false=>rfl
          | true=>exact absurd (Nat.eq_of_beq_eq_true e) h
         have b1:=nb n1
         have b2:=nb n2.symm
         have b3:=nb n3.symm
         refine ⟨?_,rfl,by simp [n1,n2.symm,n3.symm],?_⟩
         ·simp [Zbl,V.subst,unF,V.key,Zok,V.rekey,Zpg,b1]
         ·intro i l hl
          match i,hl with
          | 0,hl =>
            cases hl
            refine ⟨_,hA,?_,fun h=>absurd (show 0∈[2,0] by decide) h⟩
            simp [Obj.subst,Zbl,V.subst,unF,V.key,Zok,V.rekey,Zpg,Zs,b2,b3]
          | 1,hl =>
            cases hl
            refine ⟨_,hB,?_,fun _=>?_⟩
            ·simp [Obj.subst,Zbl,V.subst,unF,V.key,Zok,V.rekey,Zpg,Zs,b1]
            ·simp [Obj.subst,Zbl,V.subst,unF,rnF,V.key,Zok,V.rekey,b1]
          | 2,hl =>
            cases hl
            refine ⟨_,hM,rfl,fun h=>absurd (show 2∈[2,0] by decide) h⟩
          | k+3,hl=>cases hl
        ·cases h
       ·cases h
      ·cases h
     ·cases h
    ·cases h
   ·cases h
  ·cases h
 dom:=by
  intro b i o h
  show i < 3
  match i with
  | 0 | 1 | 2=>decide
  | k+3=>cases h
 back:=by
  intro os b h
  change ZmI g os=some b at h
  unfold ZmI at h
  split at h
  ·rename_i h0
   split at h
   ·rename_i h' h1
    split at h
    ·rename_i hE
     split at h
     ·rename_i f h2
      cases h
      have:=Nat.eq_of_beq_eq_true hE
      subst this
      intro i hi
      match i,hi with
      | 0,_=>exact h0
      | 1,_=>exact h1
      | 2,_=>exact h2
     ·cases h
    ·cases h
   ·cases h
  ·cases h
 same:=by
  intro b b' i hi
  match i,hi with
  | 0,hi=>exact absurd (show 0∈[2,0] by decide) hi
  | 1,_=>rfl
  | 2,hi=>exact absurd (show 2∈[2,0] by decide) hi
  | k+3,_=>rfl
 ch:=show ∀ i∈[2,0],i < 3 by decide
 mv:=show ∀ i∈[2],i∈[2,0] by decide
theorem Zsn (a:Ty.den (.sl Zrk)×Int) (b:ByteArray→Option Bool):¬ Zds 0 a b:=fun h=>by
 have h1:(0:Int)≤a.2:=h.1.1.2.2.1
 have h2:a.2 < ((0:Nat):Int):=h.2
 omega
theorem Zr6 (a:Ty.den (.sl Zrk)×Int) (b:ByteArray→Option Bool) (h:Zi4 a b):∃ N,Zds N a b:=⟨a.2.toNat+1,h,by omega⟩
end Go.Proofs.YtgpdnmfpgkkgcaaGreatDoor
namespace Go.Proofs.YtgpdnmfpgkkgcaaGreatDoor
open Go Go.ChangeAt Go.ChangeShapes Go.RowKit Go.WideShapes
set_option linter.unusedVariables false
def Wf:(T:Ty)→T.den→Prop
 | .int k,n=>(Lit.int k n).wf=true
 | .bool,_=>True
 | .str,s=>ByteArray.size s≤maxLen
 | .sl T,l=>List.length (α:=T.den) l≤maxLen∧∀ x∈(l:List T.den),Wf T x
 | .pair a b,x=>Wf a x.1∧Wf b x.2
 | .unit,_=>True
def ZoR (P:Program) (F:TypeId→Ty→Prop):Nat→List Field→Ty→Prop
 | o,[f],T=>f.offset=o∧P.cellsOf f.type=T.size∧F f.type T
 | o,f::fs,.pair A B=>f.offset=o∧P.cellsOf f.type=A.size∧F f.type A∧ZoR P F (o+A.size) fs B
 | _,_,_=>False
def FitT (P:Program):Nat→TypeId→Ty→Prop
 | 0,_,_=>False
 | n+1,t,T=>(match T with
   | .int k=>P.underlying t=some (.int k)
   | .bool=>P.underlying t=some .bool
   | .str=>P.underlying t=some .string
   | .sl T=>∃ e,P.underlying t=some (.slice e)∧P.cellsOf e=T.size∧0 < T.size∧FitT P n e T
   | _=>False)∨∃ fs,P.underlying t=some (.struct fs)∧P.cellsOf t=T.size∧ZoR P (FitT P n) 0 fs.toList T
section
variable {H:Type} {enc:TypeId×Value→H} {P:Program} {W:World} {held:Bool}
abbrev ZsT (W:World):Nat→Prop:=fun b=>b < W.heap.size
theorem ZqH {α:Type} {p:Nat→α→Prop}:∀ n:Nat,(∀ i,i < n→∃ y,p i y)→∃ l:List α,l.length=n∧∀ i y,l[i]?=some y→p i y
 | 0,_=>⟨[],rfl,fun i y h=>by simp at h⟩
 | n+1,h=>by
   obtain ⟨l,hl,hp⟩:=ZqH n fun i hi=>h i (by omega)
   obtain ⟨y,hy⟩:=h n (by omega)
   refine ⟨l++[y],by simp [hl],fun i z hz=>?_⟩
   by_cases e:i < l.length
   ·rw [List.getElem?_append_left e] at hz;exact hp i z hz
   ·rw [List.getElem?_append_right (by omega)] at hz
    have:i=l.length:=by
     have:=(List.getElem?_eq_some_iff.1 hz).1
     simp at this;omega
    subst this
    simp at hz
    subst hz
    rw [hl];exact hy
theorem Zvi {F : TypeId → Ty → Prop} {m : Nat} (hF : ∀ t T, F t T → ∀ cs x, DataW.trod enc P W 0 (fun _ => true) held m t cs = some x → ∃ y : T.den, Zba W (ZsT W) T y cs ∧ Wf T y) :
 ∀ {fs:List Field} {o:Nat} {T:Ty} {cs:List Value},ZoR P F o fs T→(∀ f∈fs,∃ x,DataW.trod enc P W 0 (fun _=>true) held m f.type ((cs.drop f.offset).take (P.cellsOf f.type))=some x)→cs.length=o+T.size →
  ∃ y:T.den,Zba W (ZsT W) T y (cs.drop o)∧Wf T y
 | [],o,T,cs,h,_,_=>by unfold ZoR at h;exact h.elim
 | [f],o,T,cs,h,hx,hl=>by
   have h':f.offset=o∧P.cellsOf f.type=T.size∧F f.type T:=by unfold ZoR at h;exact h
   obtain ⟨h1,h2,h3⟩:=h'
   obtain ⟨x,hx⟩:=hx f (by simp)
   rw [h1,h2,List.take_of_length_le (by rw [List.length_drop];omega)] at hx
   exact hF _ _ h3 _ _ hx
 | f::g::fs,o,T,cs,h,hx,hl=>by
   cases T<;>unfold ZoR at h<;>try exact h.elim
   rename_i A B
   obtain ⟨h1,h2,h3,h4⟩:=h
   have hl':cs.length=o+A.size+B.size:=by rw [hl];simp only [Ty.size];omega
   obtain ⟨b,hb,hwb⟩:=Zvi hF (cs:=cs) h4 (fun f hf=>hx f (by simp [List.mem_cons.1 hf])) hl'
   obtain ⟨x,hx⟩:=hx f (by simp)
   rw [h1,h2] at hx
   obtain ⟨a,ha,hwa⟩:=hF _ _ h3 _ _ hx
   refine ⟨(a,b),⟨_,_,?_,ha,hb⟩,hwa,hwb⟩
   rw [← List.drop_drop,List.take_append_drop]
theorem Zm6 {base:Nat} {a:Addr} {n:Nat} {cs:List Value} (h:W.cells? base a n=some cs) (hn:0 < n):a.spot=none∧a.block < W.heap.size∧cs.length=n∧∀ j u,cs[j]?=some u→W.cell? ⟨a.block,a.off+j,none⟩=some u:=by
 obtain ⟨_,hl,hc⟩:=World.cells?_some h
 have h0:=hc 0 hn
 rw [List.getElem?_eq_getElem (by omega:0 < cs.length)] at h0
 simp only [Addr.add,if_true,World.cell?] at h0
 have hs:a.spot=none∧a.block < W.heap.size:=by
  split at h0
  ·rename_i hb
   refine ⟨?_,(Array.getElem?_eq_some_iff.1 hb).1⟩
   split at h0
   ·cases h0
   ·rename_i hs;simpa using hs
  ·cases h0
 refine ⟨hs.1,hs.2,hl,fun j u hj=>?_⟩
 have hjl:j < n:=by rw [← hl];exact (List.getElem?_eq_some_iff.1 hj).1
 rw [← hj,← hc j hjl]
 obtain ⟨b,off,sp⟩:=a
 simp only at hs
 rw [hs.1]
 unfold Addr.add
 split
 ·rename_i e;subst e;rfl
 ·rfl
theorem Zp3:∀ (n:Nat) {t:TypeId} {T:Ty},FitT P n t T→∀ (fuel:Nat) (cs:List Value) (x:DataW H×List MemPlace),DataW.trod enc P W 0 (fun _=>true) held fuel t cs=some x→∃ y:T.den,Zba W (ZsT W) T y cs∧Wf T y
 | 0,_,_,h,_,_,_,_=>h.elim
 | n+1,t,T,h,fuel,cs,x,hx=>by
   unfold FitT at h
   rcases h with h | ⟨fs,h1,h2,h3⟩
   ·cases T with
    | int k =>
      obtain ⟨z,rfl,_,hw⟩:=DataW.trod_int h hx
      exact ⟨z,rfl,hw⟩
    | bool =>
      obtain ⟨z,rfl,_⟩:=DataW.trod_bool h hx
      exact ⟨z,rfl,trivial⟩
    | str =>
      obtain ⟨z,rfl,_,hw⟩:=DataW.trod_string h hx
      exact ⟨z,rfl,hw⟩
    | sl T =>
      obtain ⟨e,h1,h2,h3,h4⟩:=h
      rcases DataW.trod_slice h1 hx with ⟨rfl,_⟩ | ⟨a,len,cap,elems,rest,m,_,rfl,_,_,hl,hm,hlen,hel,_,_⟩
      ·exact ⟨[],⟨none,0,rfl,⟨Nat.le_refl _,Nat.zero_le _⟩,fun h=>absurd rfl h⟩,Nat.zero_le _,fun x hx=>by cases hx⟩
      ·have each:∀ i,i < len→∃ y:T.den,(a.block < W.heap.size∧(len≠0→a.spot=none)∧∃ cs',Zba W (ZsT W) T y cs'∧∀ j u,cs'[j]?=some u→W.cell? ⟨a.block,a.off+i*T.size+j,none⟩=some u)∧Wf T y:=by
        intro i hi
        have h5:=hel i hi
        rw [List.getElem?_eq_getElem (by omega:i < elems.length),Option.bind_eq_some_iff] at h5
        obtain ⟨cs',h6,h7⟩:=h5
        rw [h2] at h6
        obtain ⟨y,hy,hw⟩:=Zp3 n h4 _ _ _ h7
        obtain ⟨k1,k2,k3,k4⟩:=Zm6 h6 h3
        have hb:(a.add (i*T.size)).block=a.block:=by unfold Addr.add;split<;>rfl
        have ho:(a.add (i*T.size)).off=a.off+i*T.size:=by
         unfold Addr.add
         split
         ·rename_i e;rw [e];rfl
         ·rfl
        rw [hb,ho] at k4
        rw [hb] at k2
        refine ⟨y,⟨k2,fun _=>?_,cs',hy,k4⟩,hw⟩
        have h50:=hel 0 (by omega)
        rw [List.getElem?_eq_getElem (by omega:0 < elems.length),Option.bind_eq_some_iff] at h50
        obtain ⟨cs0,h60,_⟩:=h50
        rw [h2] at h60
        have:=(Zm6 h60 h3).1
        simpa [Addr.add] using this
       obtain ⟨l,hll,hlp⟩:=ZqH len each
       refine ⟨l,⟨some a,cap,by rw [hll],⟨by rw [hll];exact hl,hm⟩,fun hne=>?_⟩,by show l.length≤maxLen;omega,fun y hy=>?_⟩
       ·have hpos:0 < len:=by rw [← hll];exact List.length_pos_iff.2 hne
        obtain ⟨y0,⟨hb,hs,_⟩,_⟩:=each 0 hpos
        refine ⟨a.block,a.off,?_,hb,fun i x hi=>?_⟩
        ·have:=hs (by omega)
         obtain ⟨b,off,sp⟩:=a
         simp only at this
         rw [this]
        ·obtain ⟨⟨_,_,cs',h8,h9⟩,_⟩:=hlp i x hi
         exact ⟨cs',h8,h9⟩
       ·obtain ⟨i,hi⟩:=List.getElem?_of_mem hy
        exact (hlp i y hi).2
    | pair a b=>exact h.elim
    | unit=>exact h.elim
   ·obtain ⟨xs,m,rfl,_,h4,h5,h6⟩:=DataW.trod_struct h1 hx
    have:=Zvi (m:=m) (fun t T hF cs x hx=>Zp3 n hF m cs x hx) (cs:=cs) h3 (fun f hf=>by
     obtain ⟨i,hi⟩:=List.getElem?_of_mem hf
     have hi':fs[i]?=some f:=by simpa using hi
     have:=h6 i f hi'
     have hlt:i < xs.length:=by rw [h5];exact (Array.getElem?_eq_some_iff.1 hi').1
     exact ⟨xs[i],by rw [this,List.getElem?_eq_getElem hlt]⟩) (by rw [Nat.zero_add,h4,h2])
    simpa using this
def Ztj:Ty→Bool
 | .pair _ _=>false
 | _=>true
def ZtX (W:World):Env:=⟨W,ZsT W,fun _=>none⟩
theorem one_slice {r:Reach} {base:Nat} {t e:TypeId} {v:Value} (ht:P.underlying t=some (.slice e)) (h:Value.okWide P W r base t v):v.cells=#[v]:=by obtain ⟨a,l,c,rfl⟩:=okWide_slice ht h;rfl
theorem one_int {r:Reach} {base:Nat} {t:TypeId} {k:IntKind} {v:Value} (ht:P.underlying t=some (.int k)) (h:Value.okWide P W r base t v):v.cells=#[v]:=by obtain ⟨a,rfl⟩:=okWide_int ht h;rfl
theorem arg_plain {n:Nat} {t:TypeId} {T:Ty} {v:Value} {d:DataW H} {p:List MemPlace} (hf:FitT P n t T) (hp:Ztj T=true) (h:DataW.Trod enc P W 0 (fun _=>true) held t v d p) (hv:v.cells=#[v]):∃ y:T.den,Rep P (ZtX W) (Zo7 T y) v∧Wf T y:=by
 obtain ⟨fuel,h⟩:=h
 rw [hv] at h
 obtain ⟨y,hy,hw⟩:=Zp3 n hf _ _ _ h
 refine ⟨y,?_,hw⟩
 cases T<;>first | exact .d hy | (cases hp;done)
theorem sok_of {g : Nat} (hg : P.globalNamed "internal/strconv.uint64pow10" = some g) (h : Lib.TabIs P W "internal/strconv.uint64pow10" .u64 Lib.pow10Tab) : Sok P W (ZsT W) := by
 refine ⟨fun b hb=>hb,g,?_,fun w' hw'=>?_⟩
 ·unfold Lib.TabIs World.var? at h
  rw [hg] at h
  simp only [Option.bind_some] at h
  split at h
  ·rename_i hb;exact (Array.getElem?_eq_some_iff.1 hb).1
  ·cases h
 ·unfold Lib.TabIs World.var? at h ⊢
  rw [hg] at h ⊢
  simp only [Option.bind_some] at h ⊢
  rw [hw'];exact h
theorem ZqN {τ : Zaj} (hτ : Za8 P τ) {run : ZiK} (hrun : Zge P run) {A : An} {f : FuncId} {fi : FI} (hok : fi.Ok P f) {ps : List PS} {xs : ZbR ps} {C : Prop} (hw : C = fnW τ run A fi ps [.bool] xs fun r => r = true) (h : C) (hS : Sok P W (ZsT W)) {args : Array Value} (hr : Za6 P (ZtX W) (Zjm ps xs) args.toList) :
 Calls P f args W fun e w'=>e=.returned (.bool true)∧Below W.heap.size W w':=by
 subst hw
 refine (Zlg hτ hrun hok h hS hr).mono ?_
 rintro e w' ⟨v,S2,r,rfl,hg,hv,rfl⟩
 have hv':Rep P ⟨w',S2,fun _=>none⟩ (.d .bool true) v:=hv
 refine ⟨?_,hg.os,hg.tape,hg.output,hg.size,fun k hk=>hg.frame k hk⟩
 cases hv' with | d h=>rw [(List.cons.inj (show [v]=[Value.bool true] from h)).1]
end
end Go.Proofs.YtgpdnmfpgkkgcaaGreatDoor
