/- Part of a proof that a law of the program holds for every input: what the functions answer, in plain Lean. No conditions. -/
import Derived.Test.YtgpdnmfpgkkgcaaGreatDoorP13
namespace Go.Proofs.YtgpdnmfpgkkgcaaGreatDoor
open Go
set_option linter.unusedVariables false
theorem ZfT{β:Type}(g:Nat→β)(j:Nat):(List.range (j+1)).map g=(List.range j).map g++[g j]:=by
 rw[List.range_succ,List.map_append];rfl
theorem Zz.spec(p free:List Zc)(v:Int)(hp:Zz.pre (p,free,v,())):Zz.wp p free v (fun r=>r=Zz.fn (p,free,v,())):=by
 obtain⟨⟨n,hN,hv0,hv1⟩,hfree,hne,hno1⟩:=hp
 simp only at hN hv0 hv1 hfree hne hno1
 obtain⟨V,rfl⟩:∃ V:Nat,v=(V:Int):=⟨v.toNat,by omega⟩
 simp only[Int.toNat_natCast] at hfree hne hno1
 have hn12:=hN.2.2.2
 have h400:=hN.1
 have hVn:V < n.toNat:=by omega
 have hfn:Zz.fn (p,free,(V:Int),())=Zwc p free V:=rfl
 have hwo:∀ l:Lin,Zn.fn (l,(V:Int),())=(Zdg l.1 V,l.2):=fun _=>rfl
 have hpu:∀ c w,Zai.fn (c,(V:Int),1,1,w,())=ZsL V w c:=fun _ _=>rfl
 have hmx:∀ a l b m,Zw.fn (a,l,b,m,())=ZcF a l b m:=fun _ _ _ _=>rfl
 have hma:∀ l,ZL.fn (l,())=ZeH l:=fun _=>rfl
 have hnu:∀ a b,ZX.fn (a,b,())=(List.replicate a.toNat 0,b):=fun _ _=>rfl
 have hlc:∀ l,ZaG.fn (l,())=ZiH l:=fun _=>rfl
 simp only[Zz.wp,hfn,Zo.fn,hwo,hpu,hmx,hma,hnu,hlc,Int.toNat_natCast]
 have hszc:∀ c∈p,Zo.pre (Ze V c,()):=fun c hc=>by
  have:=ZcP (hN.c hc).1 V
  exact⟨by show -2305843009213693952≤Ze V c;omega,by show Ze V c≤2305843009213693952;omega⟩
 have hpartlen:(Zu V p).length≤400:=Nat.le_trans (List.length_filter_le _ _) h400
 refine Lp.flt p Za [] (fun jc=>decide (Ze V jc.2≠0)) (fun jc=>Zbh (Ze V jc.2)) (by omega) (fun i t R hi hi' hf htl h1 h2=>?_) (fun R _=>?_)
 ·have hm:=Zi (d:=Za) hi
  simp only[decide_eq_true hi',Int.toNat_natCast,cond_true]
  obtain⟨c,hq⟩:∃ c,p.getD i Za=c:=⟨_,rfl⟩
  simp only[hq] at hm h1 h2 ⊢
  have hlen:(V:Int) < (c.2.2.1.length:Int):=by have:=(hN.c hm).2;omega
  have hcoef:c.2.2.1.getD V 0=Ze V c:=rfl
  simp only[hcoef,List.length_nil,Nat.zero_add] at htl ⊢
  refine⟨⟨by omega,hi'⟩,⟨by omega,hlen⟩,?_⟩
  by_cases h0:Ze V c=0
  ·rw[show (Ze V c != 0)=false by simpa using h0,cond_false]
   exact⟨hf,h2 (by simpa using h0)⟩
  ·rw[show (Ze V c != 0)=true by simpa using h0,cond_true]
   exact⟨⟨by omega,hlen⟩,hszc c hm,⟨by simp only[List.length_singleton];omega,by simp only[List.length_singleton];omega⟩,hf,h1 (by simpa using h0)⟩
 simp only[Int.lt_irrefl,decide_false,cond_false,List.nil_append]
 have hall:((Zbx Za p).filter fun jc=>decide (Ze V jc.2≠0)).map (fun jc=>Zbh (Ze V jc.2))=(Zu V p).map fun c=>Zbh (Ze V c):=Zef Za p (fun c=>decide (Ze V c≠0)) (fun c=>Zbh (Ze V c))
 simp only[hall]
 have hL:ZiH ((Zu V p).map fun c=>Zbh (Ze V c))=ZbJ V p:=rfl
 simp only[hL]
 have hres:Zwc p free V=if (ZbJ V p).2≠0 then ([],3) else if (Zfs V p (ZbJ V p).1).2≠0 then ([],3)
  else ZeH (Zch V p ((p.getD 0 Za).2.2.1.length - 1) (ZbJ V p).1 (Zfs V p (ZbJ V p).1).1.toNat):=rfl
 rw[hres]
 refine⟨fun x hx=>?_,?_⟩
 ·obtain⟨c,hc,rfl⟩:=List.mem_map.1 hx
  have:=ZjQ (ZcP (hN.c (ZaT.1 hc).1).1 V)
  omega
 by_cases hl0:(ZbJ V p).2=0
 rotate_left
 ·rw[show ((ZbJ V p).2 != 0)=true by simpa using hl0,cond_true,if_pos hl0]
 rw[show ((ZbJ V p).2 != 0)=false by simpa using hl0,cond_false,if_neg (by simpa using hl0)]
 obtain⟨_,hl1,hl512⟩:=Zgh hl0
 have hfac:∀ c∈Zu V p,1≤Zca V (ZbJ V p).1 c∧Zca V (ZbJ V p).1 c≤512:=fun c hc=>⟨(Ze3 hl0 hc).2.1,(Ze3 hl0 hc).2.2.1⟩
 obtain⟨l,hl⟩:∃ l,(ZbJ V p).1=l:=⟨_,rfl⟩
 simp only[hl] at hl1 hl512 hfac ⊢
 refine Lp.iter p.length (fun i z=>z=((i:Int),(if Zu V (p.take i)=[] then (0:Int) else n),((Zb8 V (p.take i)).length:Int),((upP V (p.take i)).length:Int),l::((Zu V (p.take i)).filter fun c=>decide (c.1=2)).map (fun c=>c.2.1*Zca V l c),(Zu V (p.take i)).map (Zoq V l))) (by simp[Zu,Zb8,upP]) ?_
 rintro i z hle rfl R1 hR1
 by_cases e:i < p.length
 ·have e':(i:Int) < (p.length:Int):=by omega
  have hm:=Zi (d:=Za) e
  have hR1':=hR1 e _ rfl
  rw[ZbP (d:=Za) e,Zkj,ZsO,Zto] at hR1'
  simp only[decide_eq_true e',Int.toNat_natCast,cond_true]
  obtain⟨c,hq⟩:∃ c,p.getD i Za=c:=⟨_,rfl⟩
  simp only[hq] at hm hR1' ⊢
  have hcn:=hN.c hm
  have hlen:(V:Int) < (c.2.2.1.length:Int):=by have:=hcn.2;omega
  have hcoef:c.2.2.1.getD V 0=Ze V c:=rfl
  simp only[hcoef]
  have hfi:Zm IntKind.i64 ((i:Int)+1):=⟨by omega,by omega⟩
  refine⟨⟨by omega,e'⟩,⟨by omega,hlen⟩,?_⟩
  by_cases h0:Ze V c=0
  ·rw[show (Ze V c == 0)=true by simpa using h0,cond_true]
   have hif:(if Ze V c≠0 then [c] else [])=([]:List Zc):=if_neg (by simpa using h0)
   have hif1:(if Ze V c≠0∧c.1≠1∧c.1≠2∧0 < Ze V c then 1 else 0)=0:=if_neg (fun h=>h.1 h0)
   have hif2:(if Ze V c≠0∧c.1≠1∧c.1≠2∧¬ 0 < Ze V c then 1 else 0)=0:=if_neg (fun h=>h.1 h0)
   rw[hif,hif1,hif2,List.append_nil] at hR1'
   exact⟨hfi,hR1'⟩
  ·rw[show (Ze V c == 0)=false by simpa using h0,cond_false]
   have hcp:c∈Zu V p:=ZaT.2 ⟨hm,h0⟩
   obtain⟨f1,f2⟩:=hfac c hcp
   have hab:=ZjQ (ZcP hcn.1 V)
   have ha1:Zbh (Ze V c)≠0:=fun h=>h0 (ZrO.1 h)
   have hmed:=Zl8 hcn (by omega) hn12 ⟨f1,f2⟩ h0
   have hc1:=hno1 c hcp
   have hlq:(Zu V (p.take i)).length≤i:=Nat.le_trans (List.length_filter_le _ _) (by rw[List.length_take];omega)
   have hlow:(Zb8 V (p.take i)).length≤i:=Nat.le_trans (List.length_filter_le _ _) (by rw[List.length_take];omega)
   have hup:(upP V (p.take i)).length≤i:=Nat.le_trans (List.length_filter_le _ _) (by rw[List.length_take];omega)
   have hdq:=List.length_filter_le (fun c:Zc=>decide (c.1=2)) (Zu V (p.take i))
   have hif:(if Ze V c≠0 then [c] else [])=[c]:=if_pos h0
   rw[hif,if_neg (show ¬ Zu V (p.take i)++[c]=[] by simp)] at hR1'
   have hfacq:l.tdiv (Zbh (Ze V c))=Zca V l c:=rfl
   have hscl:((c.1,c.2.1*Zca V l c,(ZcF (Zca V l c) c.2.2 0 c.2.2).1.set V ((Ze V c).tdiv (Zbh (Ze V c))),(ZcF (Zca V l c) c.2.2 0 c.2.2).2):Zc)=Zoq V l c:=rfl
   have hslen:((ZcF (Zca V l c) c.2.2 0 c.2.2).1.set V ((Ze V c).tdiv (Zbh (Ze V c)))).length=n.toNat:=hmed.2.2
   have hmlen:(ZcF (Zca V l c) c.2.2 0 c.2.2).1.length=n.toNat:=by rw[List.length_set] at hslen;exact hslen
   have hMf:Zm IntKind.i64 (c.2.1*Zca V l c):=by have:=hmed.1;have h:-1048576≤c.2.1*Zca V l c∧c.2.1*Zca V l c≤1048576:=this;exact⟨by omega,by omega⟩
   have hsg:Zm IntKind.i64 ((Ze V c).tdiv (Zbh (Ze V c))):=by rw[Zl1 h0];unfold ZnA;split<;>exact⟨by omega,by omega⟩
   have hvs:=Zf4 hcn.1
   simp only[hfacq,hscl,hslen,hmlen]
   refine⟨hszc c hm,⟨ha1,⟨by omega,by omega⟩⟩,hMf,⟨⟨by show -1048576≤Zca V l c;omega,by show Zca V l c≤1048576;omega⟩,hvs,⟨by show (-1048576:Int)≤0;omega,by show (0:Int)≤1048576;omega⟩,hvs,rfl⟩,hszc c hm,⟨ha1,hsg⟩,⟨by omega,by omega⟩,by omega,⟨by simp only[List.length_singleton,List.length_map];omega,by simp only[List.length_singleton,List.length_map];omega⟩,?_⟩
   rw[List.map_append,List.map_cons,List.map_nil,List.filter_append] at hR1'
   have hnn:((n.toNat:Nat):Int)=n:=by omega
   by_cases h2:c.1=2
   ·rw[show (c.1 == 2)=true by simpa using h2,cond_true]
    rw[if_neg (fun h=>h.2.2.1 h2),if_neg (fun h=>h.2.2.1 h2),List.filter_cons_of_pos (by simpa using h2),List.filter_nil,List.map_append] at hR1'
    refine⟨⟨by simp only[List.length_cons,List.length_nil,List.length_map];omega,by simp only[List.length_cons,List.length_nil,List.length_map];omega⟩,hfi,?_⟩
    rw[hnn]
    exact hR1'
   ·rw[show (c.1 == 2)=false by simpa using h2,cond_false]
    rw[List.filter_cons_of_neg (by simpa using h2),List.filter_nil,List.append_nil] at hR1'
    by_cases hpos:0 < Ze V c
    ·rw[decide_eq_true hpos,cond_true]
     rw[if_pos ⟨h0,hc1,h2,hpos⟩,if_neg (fun h=>h.2.2.2 hpos)] at hR1'
     refine⟨⟨by omega,by omega⟩,hfi,?_⟩
     rw[hnn]
     exact hR1'
    ·rw[decide_eq_false hpos,cond_false]
     rw[if_neg (fun h=>hpos h.2.2.2),if_pos ⟨h0,hc1,h2,hpos⟩] at hR1'
     refine⟨⟨by omega,by omega⟩,hfi,?_⟩
     rw[hnn]
     exact hR1'
 have hip:i=p.length:=by omega
 subst hip
 simp only[Int.lt_irrefl,decide_false,cond_false,List.take_length,if_neg hne]
 obtain⟨N,rfl⟩:∃ N:Nat,n=(N:Int):=⟨n.toNat,by omega⟩
 simp only[Int.toNat_natCast] at hVn ⊢
 have hwh:(((2:Int),(l,((List.set (List.replicate N (0:Int)) V (1:Int)),(0:Int)))):Zc)=ZeE N V l:=rfl
 have hdd:ZiH (l::((Zu V p).filter fun c=>decide (c.1=2)).map (fun c=>c.2.1*Zca V l c))=Zfs V p l:=rfl
 simp only[hwh,hdd,List.length_replicate]
 have hdq:=List.length_filter_le (fun c:Zc=>decide (c.1=2)) (Zu V p)
 refine⟨⟨by omega,by omega,by omega,by omega⟩,⟨by omega,by omega⟩,hVn,⟨by simp only[List.length_singleton,List.length_map];omega,by simp only[List.length_singleton,List.length_map];omega⟩,fun x hx=>?_,?_⟩
 ·rcases List.mem_cons.1 hx with rfl | hx
  ·omega
  ·obtain⟨c,hc,rfl⟩:=List.mem_map.1 hx
   obtain⟨hc,_⟩:=List.mem_filter.1 hc
   obtain⟨f1,f2⟩:=hfac c hc
   have:=Zuo (ZiM (hN.c (ZaT.1 hc).1).1) (b:=Zca V l c) (by omega)
   omega
 by_cases hd0:(Zfs V p l).2=0
 rotate_left
 ·rw[show ((Zfs V p l).2 != 0)=true by simpa using hd0,cond_true,if_pos hd0]
 rw[show ((Zfs V p l).2 != 0)=false by simpa using hd0,cond_false,if_neg (by simpa using hd0)]
 obtain⟨hd1,hd512,_,_⟩:=Zov hd0
 obtain⟨d,hd⟩:∃ d:Nat,(Zfs V p l).1=(d:Int):=⟨(Zfs V p l).1.toNat,by omega⟩
 simp only[hd,Int.toNat_natCast] at hd1 hd512 ⊢
 have hlen0:(p.getD 0 Za).2.2.1.length=N:=by
  have hp0:0 < p.length:=by
   rcases hp0:p with _ | ⟨c,q⟩
   ·rw[hp0] at hne;exact absurd rfl hne
   ·simp
  have:=(hN.c (Zi (d:=Za) hp0)).2
  omega
 rw[hlen0]
 have hN12:N≤12:=by omega
 have hputs:∀ (w:Lin) (all:Bool),w.1.length=N - 1→free++((((Zu V p).map (Zoq V l))++[ZeE N V l]).filter fun c=>all||decide (c.1=2)).map (ZsL V w)=Zfw V p l w all:=fun w all hw=>by
  rw[hfree]
  exact Zvz hN (by omega) hw all
 have hfl:free.length≤400:=by rw[hfree];exact Nat.le_trans ZcM h400
 obtain⟨W,hW⟩:∃ W,(Zu V p).map (Zoq V l)++[ZeE N V l]=W:=⟨_,rfl⟩
 have hWlen:W.length≤401:=by rw[← hW];simp;omega
 have hWmed:∀ c∈W,Zxf N c∧(-1048576≤Ze V c∧Ze V c≤1048576):=fun c hc=>by
  rw[← hW] at hc
  rcases List.mem_append.1 hc with hc | hc
  ·obtain⟨c',hc',rfl⟩:=List.mem_map.1 hc
   have hcp:=ZaT.1 hc'
   have hcn:=hN.c hcp.1
   refine⟨Zl8 hcn (by omega) hn12 (hfac c' hc') hcp.2,?_⟩
   rw[Zis (by have:=hcn.2;omega) hcp.2]
   unfold ZnA;split<;>omega
  ·rw[List.mem_singleton.1 hc]
   refine⟨Zq7 hN12 ⟨hl1,hl512⟩,?_⟩
   rw[Zix hVn];omega
 simp only[hW] at hputs ⊢
 have hgood:=Zf2 hN (v:=V) (by omega) hl0 (d:=d) (by omega)
 simp only[hl,Int.toNat_natCast] at hgood
 have hpre:∀ L,L=Zch V p (N - 1) l d→ZL.pre (L,()):=fun L hL=>by
  rw[hL]
  exact⟨Nat.le_trans hgood.1 (by omega),fun q hq=>⟨(hgood.2 q hq).D.1,_,(hgood.2 q hq).D.2⟩⟩
 have hnum:∀ j:Nat,j≤512→ZX.pre ((N:Int) - 1,(j:Int),()):=fun j _=>⟨by show (0:Int)≤(N:Int) - 1;omega,by show (N:Int) - 1≤1048576;omega⟩
 have hNt:((N:Int) - 1).toNat=N - 1:=by omega
 simp only[hNt]
 refine⟨fun h=>⟨h,trivial⟩,fun h=>by rw[h];rfl,?_⟩
 by_cases hAB:Zb8 V p=[]∨upP V p=[]
 ·have hc:(((Zb8 V p).length:Int) == 0||((upP V p).length:Int) == 0)=true:=by
   rcases hAB with h | h<;>simp[h]
  rw[hc,cond_true]
  have hT:Zch V p (N - 1) l d=(List.range d).map fun (j:Nat)=>Zfw V p l (List.replicate (N - 1) 0,(j:Int)) false:=by
   unfold Zch;rw[if_pos hAB]
  refine Lp.iter d (fun j z=>z=((j:Int),(List.range j).map fun (j:Nat)=>Zfw V p l (List.replicate (N - 1) 0,(j:Int)) false)) rfl ?_
  rintro j z hj rfl R2 hR2
  by_cases ej:j < d
  ·simp only[decide_eq_true (show (j:Int) < (d:Int) by omega),cond_true,List.length_nil,Nat.zero_add]
   refine⟨⟨by omega,by omega⟩,?_⟩
   have hR2':=hR2 ej _ rfl
   rw[ZfT] at hR2'
   refine Lp.flt W Za free (fun jc=>decide (jc.2.1=2)) (fun jc=>ZsL V (List.replicate (N - 1) 0,(j:Int)) jc.2) (by omega) (fun i t R3 hi hi' hf htl h1 h2=>?_) (fun R3 _=>?_)
   ·have hm:=Zi (d:=Za) hi
    simp only[decide_eq_true hi',Int.toNat_natCast,cond_true]
    obtain⟨c,hq⟩:∃ c,W.getD i Za=c:=⟨_,rfl⟩
    simp only[hq] at hm h1 h2 ⊢
    refine⟨⟨by omega,hi'⟩,hi,?_⟩
    by_cases h2':c.1=2
    ·rw[show (c.1 == 2)=true by simpa using h2',cond_true]
     obtain⟨hmed,hcf⟩:=hWmed c hm
     exact⟨⟨by omega,by omega⟩,hnum j (by omega),⟨⟨N,hmed,by omega,by show (List.replicate (N - 1) (0:Int)).length+1=N;rw[List.length_replicate];omega,by show (0:Int)≤V;omega,by show (V:Int) < N;omega⟩,hcf,by show (-1048576:Int)≤1∧(1:Int)≤1048576;omega,.inl rfl,(ZlW (n:=N - 1) (j:=j) (by omega)).small (by omega) (by omega)⟩,⟨by simp only[List.length_singleton];omega,by simp only[List.length_singleton];omega⟩,hf,h1 (by simpa using h2')⟩
    ·rw[show (c.1 == 2)=false by simpa using h2',cond_false]
     exact⟨hf,h2 (by simpa using h2')⟩
   ·simp only[Int.lt_irrefl,decide_false,cond_false]
    have hq:=hputs (List.replicate (N - 1) 0,(j:Int)) false (by simp)
    rw[Zef Za W (fun c=>decide (c.1=2)) (ZsL V (List.replicate (N - 1) 0,(j:Int)))]
    simp only[Bool.false_or] at hq
    rw[hq]
    exact⟨⟨by simp only[List.length_singleton,List.length_map,List.length_range];omega,by simp only[List.length_singleton,List.length_map,List.length_range];omega⟩,⟨by omega,by omega⟩,hR2'⟩
  ·have:j=d:=by omega
   subst this
   simp only[Int.lt_irrefl,decide_false,cond_false]
   exact⟨hpre _ hT.symm,by rw[hT]⟩
 ·have hc:(((Zb8 V p).length:Int) == 0||((upP V p).length:Int) == 0)=false:=by
   simp only[not_or] at hAB
   have h1:(Zb8 V p).length≠0:=fun h=>hAB.1 (List.eq_nil_of_length_eq_zero h)
   have h2:(upP V p).length≠0:=fun h=>hAB.2 (List.eq_nil_of_length_eq_zero h)
   simp;omega
  rw[hc,cond_false]
  have hT:Zch V p (N - 1) l d=(Znh V p).flatMap fun c=>(List.range d).map fun (j:Nat)=>Zfw V p l (Zd0 V l c (Zg2 V p) j) true:=by
   unfold Zch;rw[if_neg hAB]
  have side:∀ (s:Int) (low:Bool),Zg2 V p=low→s=(if low then 1 else -1)→W.flatMap (fun b=>if (decide (b.1≠2)&&decide (Ze V b=s))=true then (List.range d).map (fun (j:Nat)=>Zfw V p l (if low then ((ZaN V b).1.map fun n=>-1*n,-1*(ZaN V b).2+j) else ((ZaN V b).1,(ZaN V b).2+-j)) true) else [])=Zch V p (N - 1) l d:=by
   intro s low hlow hs
   rw[hT,Zju,← hW,List.filter_append,List.flatMap_append]
   have hw2:([ZeE N V l].filter fun b=>decide (b.1≠2)&&decide (Ze V b=s))=[]:=by
    rw[List.filter_cons_of_neg (by simp[ZeE])];rfl
   rw[hw2,List.flatMap_nil,List.append_nil,List.filter_map]
   unfold Znh
   rw[List.flatMap_map]
   have hfilt:((Zu V p).filter ((fun b=>decide (b.1≠2)&&decide (Ze V b=s))∘Zoq V l))=(Zu V p).filter fun c=>decide (c.1≠2∧decide (0 < Ze V c)=Zg2 V p):=by
    apply List.filter_congr
    intro c hc
    have hcp:=ZaT.1 hc
    have hcs:=Zis (l:=l) (show V < c.2.2.1.length by have:=(hN.c hcp.1).2;omega) hcp.2
    show (decide (c.1≠2)&&decide (Ze V (Zoq V l c)=s))=_
    rw[hcs,hlow,hs]
    have h0:=hcp.2
    unfold ZnA
    by_cases h2:c.1=2
    ·simp[h2]
    ·cases low with
     | true=>simp[h2];omega
     | false=>simp[h2];omega
   rw[hfilt]
   congr 1
   funext c
   rw[Zjk,hlow]
   rfl
  have hby:∀ (b:Zc) (low:Bool) (s:Int) (j:Nat),s=(if low then 1 else -1)→(ZaN V b).1.length=N - 1→ZcF (-s) (ZaN V b) s (List.replicate (N - 1) 0,(j:Int))=if low then ((ZaN V b).1.map fun n=>-1*n,-1*(ZaN V b).2+j) else ((ZaN V b).1,(ZaN V b).2+-j):=by
   intro b low s j hs hb
   have hz:(List.replicate (N - 1) (0:Int),(j:Int))=(List.replicate (ZaN V b).1.length 0,(j:Int)):=by rw[hb]
   rw[hz,Zm8]
   cases low with
   | true=>rw[hs];simp
   | false=>rw[hs];simp
  have restlen:∀ b∈W,(ZaN V b).1.length=N - 1:=fun b hb=>by
   have:=(hWmed b hb).1.2.2
   show (Zdg b.2.2.1 V).length=_
   rw[Zij (by omega),this]
  have loop : ∀ (s : Int) (low : Bool), Zg2 V p = low → s = (if low then 1 else -1) → ∀ body : Int × List (List Zc) → (Int × List (List Zc) → Prop) → Prop,
   (∀ (i:Nat) (t:List (List Zc)) (R:Int×List (List Zc)→Prop),i < W.length→t.length≤401*512→W.getD i Za∈W→(decide ((W.getD i Za).1≠2)&&decide (Ze V (W.getD i Za)=s))=false→R ((i:Int)+1,t)→body ((i:Int),t) R) →
   (∀ (i:Nat) (t:List (List Zc)) (R:Int×List (List Zc)→Prop),i < W.length→t.length≤401*512→W.getD i Za∈W→(decide ((W.getD i Za).1≠2)&&decide (Ze V (W.getD i Za)=s))=true→R ((i:Int)+1,t++(List.range d).map (fun (j:Nat)=>Zfw V p l (ZcF (-s) (ZaN V (W.getD i Za)) s (List.replicate (N - 1) 0,(j:Int))) true))→body ((i:Int),t) R) →
   (∀ R:Int×List (List Zc)→Prop,body ((W.length:Int),Zch V p (N - 1) l d) R)→Lp body (0,[]):=by
   intro s low hlow hs body hb1 hb2 hb3
   have hside:=side s low hlow hs
   refine Lp.flat W Za [] (fun b=>if (decide (b.1≠2)&&decide (Ze V b=s))=true then (List.range d).map (fun (j:Nat)=>Zfw V p l (if low then ((ZaN V b).1.map fun n=>-1*n,-1*(ZaN V b).2+j) else ((ZaN V b).1,(ZaN V b).2+-j)) true) else []) (by omega) (fun i R hi hi' hf hR=>?_) (fun R=>?_)
   ·have hm:=Zi (d:=Za) hi
    rw[List.nil_append] at hR ⊢
    have htl:((W.take i).flatMap fun b=>if (decide (b.1≠2)&&decide (Ze V b=s))=true then (List.range d).map (fun (j:Nat)=>Zfw V p l (if low then ((ZaN V b).1.map fun n=>-1*n,-1*(ZaN V b).2+j) else ((ZaN V b).1,(ZaN V b).2+-j)) true) else []).length≤401*512:=by
     have h1:=ZcW (g:=fun b=>if (decide (b.1≠2)&&decide (Ze V b=s))=true then (List.range d).map (fun (j:Nat)=>Zfw V p l (if low then ((ZaN V b).1.map fun n=>-1*n,-1*(ZaN V b).2+j) else ((ZaN V b).1,(ZaN V b).2+-j)) true) else []) (k:=512) (l:=W.take i) fun x _=>by
      split
      ·simp;omega
      ·simp
     have h2:(W.take i).length≤401:=by rw[List.length_take];omega
     exact Nat.le_trans h1 (Nat.mul_le_mul h2 (Nat.le_refl 512))
    cases hcnd:(decide ((W.getD i Za).1≠2)&&decide (Ze V (W.getD i Za)=s)) with
    | false =>
      rw[hcnd,if_neg (by simp),List.append_nil] at hR
      exact hb1 i _ R hi htl hm hcnd hR
    | true =>
      rw[hcnd,if_pos rfl] at hR
      refine hb2 i _ R hi htl hm hcnd ?_
      have e:(fun (j:Nat)=>Zfw V p l (ZcF (-s) (ZaN V (W.getD i Za)) s (List.replicate (N - 1) 0,(j:Int))) true)=fun (j:Nat)=>Zfw V p l (if low then ((ZaN V (W.getD i Za)).1.map fun n=>-1*n,-1*(ZaN V (W.getD i Za)).2+j) else ((ZaN V (W.getD i Za)).1,(ZaN V (W.getD i Za)).2+-j)) true:=by
       funext j
       rw[hby _ low s j hs (restlen _ hm)]
      rw[e]
      exact hR
   ·rw[List.nil_append,hside]
    exact hb3 R
  have hmixpre:∀ (b:Zc) (s:Int) (j:Nat),b∈W→s=1∨s=-1→j≤512→Zw.pre (-s,ZaN V b,s,(List.replicate (N - 1) 0,(j:Int)),())∧Zdf (ZcF (-s) (ZaN V b) s (List.replicate (N - 1) 0,(j:Int)))∧(ZcF (-s) (ZaN V b) s (List.replicate (N - 1) 0,(j:Int))).1.length=N - 1:=by
   intro b s j hb hs hj
   obtain⟨hmed,_⟩:=hWmed b hb
   have hrl:=restlen b hb
   have hsm:Zdf (ZaN V b):=Zg5 hmed.2.1 V
   have hbd:Zeo 536870912 (N - 1) (ZaN V b):=by
    rw[← hW] at hb
    rcases List.mem_append.1 hb with hb | hb
    ·obtain⟨c,hc,rfl⟩:=List.mem_map.1 hb
     rw[Zjk]
     exact ZjE (hN.c (ZaT.1 hc).1) (by omega) (hfac c hc)
    ·rw[List.mem_singleton.1 hb,Zin hVn]
     exact⟨by simp,fun x hx=>by rw[(List.mem_replicate.1 hx).2];omega,by simp only;omega⟩
   have hnb:=ZlW (n:=N - 1) hj
   have hs':-1≤-s∧-s≤1:=by omega
   have hs'':-1≤s∧s≤1:=by omega
   have hm:=Zmb (A:=1) (B:=1) (by omega) (by omega) (by omega) (by omega) hs' hbd hs'' hnb
   exact⟨⟨by show -1048576≤-s∧-s≤1048576;omega,hsm,by show -1048576≤s∧s≤1048576;omega,hnb.small (by omega) (by omega),by show (ZaN V b).1.length=(List.replicate (N - 1) (0:Int)).length;rw[List.length_replicate];exact hrl⟩,hm.small (by omega) (by omega),hm.1⟩
  have hlowS:decide (((upP V p).length:Int) < ((Zb8 V p).length:Int))=!Zg2 V p:=by
   unfold Zg2
   by_cases h:(Zb8 V p).length≤(upP V p).length
   ·rw[decide_eq_true h,decide_eq_false (by omega)];rfl
   ·rw[decide_eq_false h,decide_eq_true (by omega)];rfl
  rw[hlowS]
  cases hlow:Zg2 V p with
  | false =>
    simp only[Bool.not_false,cond_true]
    refine loop (-1) false hlow rfl _ ?_ ?_ ?_
    ·intro i t R hi ht hm hcnd hR
     have hi':(i:Int) < (W.length:Int):=by omega
     simp only[decide_eq_true hi',Int.toNat_natCast,cond_true]
     obtain⟨b,hq⟩:∃ b,W.getD i Za=b:=⟨_,rfl⟩
     simp only[hq] at hm hcnd ⊢
     have hbl:=(hWmed b hm).1.2.2
     have hcoef:b.2.2.1.getD V 0=Ze V b:=rfl
     simp only[hcoef]
     refine⟨⟨by omega,hi'⟩,hi,fun h=>⟨h,trivial⟩,fun h=>⟨h,trivial⟩,fun h=>⟨h,h,by omega,by omega⟩,fun h=>⟨h,trivial⟩,fun h=>⟨h,h,trivial⟩,fun h=>by rw[h];rfl,?_⟩
     have:(b.1 == 2||Ze V b != -1)=true:=by
      revert hcnd
      by_cases h2:b.1=2<;>by_cases h3:Ze V b=-1<;>simp[h2,h3]
     rw[this,cond_true]
     exact⟨⟨by omega,by omega⟩,hR⟩
    ·intro i t R hi ht hm hcnd hR
     have hi':(i:Int) < (W.length:Int):=by omega
     simp only[decide_eq_true hi',Int.toNat_natCast,cond_true]
     obtain⟨b,hq⟩:∃ b,W.getD i Za=b:=⟨_,rfl⟩
     simp only[hq] at hm hcnd hR ⊢
     have hbl:=(hWmed b hm).1.2.2
     have hcoef:b.2.2.1.getD V 0=Ze V b:=rfl
     have hrest:(Zdg b.2.2.1 V,b.2.2.2)=ZaN V b:=rfl
     simp only[hcoef,hrest]
     refine⟨⟨by omega,hi'⟩,hi,fun h=>⟨h,trivial⟩,fun h=>⟨h,trivial⟩,fun h=>⟨h,h,by omega,by omega⟩,fun h=>⟨h,trivial⟩,fun h=>⟨h,h,trivial⟩,fun h=>by rw[h];rfl,?_⟩
     have:(b.1 == 2||Ze V b != -1)=false:=by
      revert hcnd
      by_cases h2:b.1=2<;>by_cases h3:Ze V b=-1<;>simp[h2,h3]
     rw[this,cond_false]
     refine⟨⟨by show b.2.2.1.length≤1048576;omega,by show (0:Int)≤V;omega,by show (V:Int) < (b.2.2.1.length:Int);omega⟩,?_⟩
     refine Lp.iter d (fun j z=>z=((j:Int),t++(List.range j).map (fun (j:Nat)=>Zfw V p l (ZcF (-(-1)) (ZaN V b) (-1) (List.replicate (N - 1) 0,(j:Int))) true))) (by simp) ?_
     rintro j z hj rfl R2 hR2
     by_cases ej:j < d
     ·simp only[decide_eq_true (show (j:Int) < (d:Int) by omega),cond_true,List.length_nil,Nat.zero_add]
      have hR2':=hR2 ej _ rfl
      rw[ZfT,← List.append_assoc] at hR2'
      obtain⟨hmp,hms,hml⟩:=hmixpre b (-1) j hm (.inr rfl) (by omega)
      refine⟨⟨by omega,by omega⟩,⟨by omega,by omega⟩,hnum j (by omega),hmp,⟨by omega,by omega⟩,?_⟩
      obtain⟨by_,hbye⟩:∃ w:Lin,ZcF (-(-1)) (ZaN V b) (-1) (List.replicate (N - 1) 0,(j:Int))=w:=⟨_,rfl⟩
      simp only[hbye] at hmp hms hml hR2' ⊢
      refine Lp.iter W.length (fun k z=>z=((k:Int),by_,free++(W.take k).map (ZsL V by_),by_)) (by simp) ?_
      rintro k z hk rfl R3 hR3
      by_cases ek:k < W.length
      ·have ek':(k:Int) < (W.length:Int):=by omega
       have hmk:=Zi (d:=Za) ek
       have hR3':=hR3 ek _ rfl
       rw[ZbP (d:=Za) ek,List.map_append,List.map_cons,List.map_nil,← List.append_assoc] at hR3'
       simp only[decide_eq_true ek',Int.toNat_natCast,cond_true]
       obtain⟨hmed,hcf⟩:=hWmed _ hmk
       exact⟨⟨by omega,ek'⟩,ek,⟨⟨N,hmed,by omega,by show by_.1.length+1=N;omega,by show (0:Int)≤V;omega,by show (V:Int) < N;omega⟩,hcf,by show (-1048576:Int)≤1∧(1:Int)≤1048576;omega,.inl rfl,hms⟩,⟨by simp only[List.length_singleton,List.length_append,List.length_map,List.length_take];omega,by simp only[List.length_singleton,List.length_append,List.length_map,List.length_take];omega⟩,⟨by omega,by omega⟩,hR3'⟩
      ·have:k=W.length:=by omega
       subst this
       simp only[Int.lt_irrefl,decide_false,cond_false,List.take_length]
       have hq2:=hputs by_ true hml
       simp only[Bool.true_or] at hq2
       rw[List.filter_eq_self.2 (fun _ _=>rfl)] at hq2
       rw[hq2]
       exact⟨⟨by simp only[List.length_singleton,List.length_append,List.length_map,List.length_range];omega,by simp only[List.length_singleton,List.length_append,List.length_map,List.length_range];omega⟩,⟨by omega,by omega⟩,hR2'⟩
     ·have:j=d:=by omega
      subst this
      simp only[Int.lt_irrefl,decide_false,cond_false]
      exact⟨⟨by omega,by omega⟩,hR⟩
    ·intro R
     simp only[Int.lt_irrefl,decide_false,cond_false]
     exact⟨hpre _ rfl,trivial⟩
  | true =>
    simp only[Bool.not_true,cond_false]
    refine loop 1 true hlow rfl _ ?_ ?_ ?_
    ·intro i t R hi ht hm hcnd hR
     have hi':(i:Int) < (W.length:Int):=by omega
     simp only[decide_eq_true hi',Int.toNat_natCast,cond_true]
     obtain⟨b,hq⟩:∃ b,W.getD i Za=b:=⟨_,rfl⟩
     simp only[hq] at hm hcnd ⊢
     have hbl:=(hWmed b hm).1.2.2
     have hcoef:b.2.2.1.getD V 0=Ze V b:=rfl
     simp only[hcoef]
     refine⟨⟨by omega,hi'⟩,hi,fun h=>⟨h,trivial⟩,fun h=>⟨h,trivial⟩,fun h=>⟨h,h,by omega,by omega⟩,fun h=>⟨h,trivial⟩,fun h=>⟨h,h,trivial⟩,fun h=>by rw[h];rfl,?_⟩
     have:(b.1 == 2||Ze V b != 1)=true:=by
      revert hcnd
      by_cases h2:b.1=2<;>by_cases h3:Ze V b=1<;>simp[h2,h3]
     rw[this,cond_true]
     exact⟨⟨by omega,by omega⟩,hR⟩
    ·intro i t R hi ht hm hcnd hR
     have hi':(i:Int) < (W.length:Int):=by omega
     simp only[decide_eq_true hi',Int.toNat_natCast,cond_true]
     obtain⟨b,hq⟩:∃ b,W.getD i Za=b:=⟨_,rfl⟩
     simp only[hq] at hm hcnd hR ⊢
     have hbl:=(hWmed b hm).1.2.2
     have hcoef:b.2.2.1.getD V 0=Ze V b:=rfl
     have hrest:(Zdg b.2.2.1 V,b.2.2.2)=ZaN V b:=rfl
     simp only[hcoef,hrest]
     refine⟨⟨by omega,hi'⟩,hi,fun h=>⟨h,trivial⟩,fun h=>⟨h,trivial⟩,fun h=>⟨h,h,by omega,by omega⟩,fun h=>⟨h,trivial⟩,fun h=>⟨h,h,trivial⟩,fun h=>by rw[h];rfl,?_⟩
     have:(b.1 == 2||Ze V b != 1)=false:=by
      revert hcnd
      by_cases h2:b.1=2<;>by_cases h3:Ze V b=1<;>simp[h2,h3]
     rw[this,cond_false]
     refine⟨⟨by show b.2.2.1.length≤1048576;omega,by show (0:Int)≤V;omega,by show (V:Int) < (b.2.2.1.length:Int);omega⟩,?_⟩
     refine Lp.iter d (fun j z=>z=((j:Int),t++(List.range j).map (fun (j:Nat)=>Zfw V p l (ZcF (-1) (ZaN V b) 1 (List.replicate (N - 1) 0,(j:Int))) true))) (by simp) ?_
     rintro j z hj rfl R2 hR2
     by_cases ej:j < d
     ·simp only[decide_eq_true (show (j:Int) < (d:Int) by omega),cond_true,List.length_nil,Nat.zero_add]
      have hR2':=hR2 ej _ rfl
      rw[ZfT,← List.append_assoc] at hR2'
      obtain⟨hmp,hms,hml⟩:=hmixpre b 1 j hm (.inl rfl) (by omega)
      refine⟨⟨by omega,by omega⟩,⟨by omega,by omega⟩,hnum j (by omega),hmp,⟨by omega,by omega⟩,?_⟩
      obtain⟨by_,hbye⟩:∃ w:Lin,ZcF (-1) (ZaN V b) 1 (List.replicate (N - 1) 0,(j:Int))=w:=⟨_,rfl⟩
      simp only[hbye] at hmp hms hml hR2' ⊢
      refine Lp.iter W.length (fun k z=>z=((k:Int),by_,free++(W.take k).map (ZsL V by_),by_)) (by simp) ?_
      rintro k z hk rfl R3 hR3
      by_cases ek:k < W.length
      ·have ek':(k:Int) < (W.length:Int):=by omega
       have hmk:=Zi (d:=Za) ek
       have hR3':=hR3 ek _ rfl
       rw[ZbP (d:=Za) ek,List.map_append,List.map_cons,List.map_nil,← List.append_assoc] at hR3'
       simp only[decide_eq_true ek',Int.toNat_natCast,cond_true]
       obtain⟨hmed,hcf⟩:=hWmed _ hmk
       exact⟨⟨by omega,ek'⟩,ek,⟨⟨N,hmed,by omega,by show by_.1.length+1=N;omega,by show (0:Int)≤V;omega,by show (V:Int) < N;omega⟩,hcf,by show (-1048576:Int)≤1∧(1:Int)≤1048576;omega,.inl rfl,hms⟩,⟨by simp only[List.length_singleton,List.length_append,List.length_map,List.length_take];omega,by simp only[List.length_singleton,List.length_append,List.length_map,List.length_take];omega⟩,⟨by omega,by omega⟩,hR3'⟩
      ·have:k=W.length:=by omega
       subst this
       simp only[Int.lt_irrefl,decide_false,cond_false,List.take_length]
       have hq2:=hputs by_ true hml
       simp only[Bool.true_or] at hq2
       rw[List.filter_eq_self.2 (fun _ _=>rfl)] at hq2
       rw[hq2]
       exact⟨⟨by simp only[List.length_singleton,List.length_append,List.length_map,List.length_range];omega,by simp only[List.length_singleton,List.length_append,List.length_map,List.length_range];omega⟩,⟨by omega,by omega⟩,hR2'⟩
     ·have:j=d:=by omega
      subst this
      simp only[Int.lt_irrefl,decide_false,cond_false]
      exact⟨⟨by omega,by omega⟩,hR⟩
    ·intro R
     simp only[Int.lt_irrefl,decide_false,cond_false]
     exact⟨hpre _ rfl,trivial⟩
def eqJ(v:Nat)(p:List Zc)(i:Nat):Int:=(List.range i).foldl (ZeA v p) (-1)
theorem ZlI(v:Nat)(p:List Zc)(i:Nat):eqJ v p (i+1)=ZeA v p (eqJ v p i) i:=by
 unfold eqJ
 rw[List.range_succ,List.foldl_append];rfl
theorem Zm0(v:Nat)(p:List Zc):∀ i,i≤p.length→eqJ v p i=-1∧(∀ j,j < i→Ze v (p.getD j Za)≠0→(p.getD j Za).1≠1)∨(0≤eqJ v p i∧eqJ v p i < (i:Int)∧Ze v (p.getD (eqJ v p i).toNat Za)≠0∧(p.getD (eqJ v p i).toNat Za).1=1)
 | 0,_=>.inl ⟨rfl,fun j hj=>absurd hj (by omega)⟩
 | i+1,hi=>by
   rw[ZlI]
   have ih:=Zm0 v p i (by omega)
   unfold ZeA
   split
   ·rename_i h
    exact .inr ⟨by omega,by omega,by simpa using h.1,by simpa using h.2.1⟩
   ·rename_i h
    rcases ih with ⟨h1,h2⟩ | ⟨h1,h2,h3⟩
    ·refine .inl ⟨h1,fun j hj hc=>?_⟩
     by_cases e:j=i
     ·subst e
      exact fun hk=>h ⟨hc,hk,.inl (by omega)⟩
     ·exact h2 j (by omega) hc
    ·exact .inr ⟨h1,by omega,h3⟩
theorem ZkP(v:Nat)(q:List Zc)(c:Zc):Zb1 v (q++[c])=Zb1 v q++if Ze v c=0 then [Zdn v c] else []:=by
 unfold Zb1
 rw[List.filter_append,List.map_append]
 congr 1
 by_cases h:Ze v c=0<;>simp[h]
theorem Zmq(v:Nat)(q:List Zc)(c:Zc):Zgn v (q++[c])=Zgn v q++if Ze v c≠0∧c.1=2 then [c] else []:=by
 unfold Zgn
 rw[List.filter_append]
 congr 1
 by_cases h:Ze v c≠0∧c.1=2
 ·rw[if_pos h,List.filter_cons_of_pos (by simpa using h)];rfl
 ·rw[if_neg h,List.filter_cons_of_neg (by simpa using h)];rfl
theorem Zkv(v:Nat)(q:List Zc)(c:Zc):Zb8 v (q++[c])=Zb8 v q++if Ze v c≠0∧c.1≠1∧c.1≠2∧0 < Ze v c then [c] else []:=by
 unfold Zb8
 rw[List.filter_append]
 congr 1
 by_cases h:Ze v c≠0∧c.1≠1∧c.1≠2∧0 < Ze v c
 ·rw[if_pos h,List.filter_cons_of_pos (by simpa using h)];rfl
 ·rw[if_neg h,List.filter_cons_of_neg (by simpa using h)];rfl
theorem ZmK(v:Nat)(q:List Zc)(c:Zc):upP v (q++[c])=upP v q++if Ze v c≠0∧c.1≠1∧c.1≠2∧¬ 0 < Ze v c then [c] else []:=by
 unfold upP
 rw[List.filter_append]
 congr 1
 by_cases h:Ze v c≠0∧c.1≠1∧c.1≠2∧¬ 0 < Ze v c
 ·rw[if_pos h,List.filter_cons_of_pos (by simpa using h)];rfl
 ·rw[if_neg h,List.filter_cons_of_neg (by simpa using h)];rfl
theorem Zdi{f:Zc→Bool}{p:List Zc}(i:Nat):((p.take i).filter f).length≤i:=Nat.le_trans (List.length_filter_le _ _) (by rw[List.length_take];omega)
theorem Zl0{q:List Zc}{n:Nat}(h:Zj5 n q):ZL.pre ([q],()) :=
 ⟨by show ([q]:List (List Zc)).length≤_;simp,fun r hr=>by
  have hr':r∈[q]:=hr
  rw[List.mem_singleton.1 hr']
  exact⟨h.D.1,n,h.D.2⟩⟩
theorem Zae.spec(p:List Zc)(n v:Int)(hp:Zae.pre (p,n,v,())):Zae.wp p n v (fun r=>r=Zae.fn (p,n,v,())):=by
 obtain⟨hN,hv0,hv1⟩:=hp
 simp only at hN hv0 hv1
 obtain⟨V,rfl⟩:∃ V:Nat,v=(V:Int):=⟨v.toNat,by omega⟩
 obtain⟨N,rfl⟩:∃ N:Nat,n=(N:Int):=⟨n.toNat,by omega⟩
 have h400:=hN.1
 have hn12:=hN.2.2.2
 have hfn:Zae.fn (p,(N:Int),(V:Int),())=ZT p N V:=rfl
 have hwo:∀ l:Lin,Zn.fn (l,(V:Int),())=(Zdg l.1 V,l.2):=fun _=>rfl
 have hmx:∀ a l b m,Zw.fn (a,l,b,m,())=ZcF a l b m:=fun _ _ _ _=>rfl
 have hma:∀ l,ZL.fn (l,())=ZeH l:=fun _=>rfl
 have hso:∀ p (i:Int),Zaf.fn (p,i,(V:Int),())=ZcT V p i.toNat:=fun _ _=>rfl
 have hre:∀ p free,Zz.fn (p,free,(V:Int),())=Zwc p free V:=fun _ _=>rfl
 simp only[Zae.wp,hfn,Zo.fn,hwo,hmx,hma,hso,hre,Int.toNat_natCast]
 have hszc:∀ c∈p,Zo.pre (Ze V c,()):=fun c hc=>by
  have:=ZcP (hN.c hc).1 V
  exact⟨by show -2305843009213693952≤Ze V c;omega,by show Ze V c≤2305843009213693952;omega⟩
 refine Lp.iter p.length (fun i z=>z=((i:Int),eqJ V p i,Zb1 V (p.take i),Zgn V (p.take i),Zb8 V (p.take i),upP V (p.take i))) (by simp[eqJ,Zb1,Zgn,Zb8,upP]) ?_
 rintro i z hle rfl R hR
 by_cases e:i < p.length
 ·have e':(i:Int) < (p.length:Int):=by omega
  have hm:=Zi (d:=Za) e
  have hR':=hR e _ rfl
  rw[ZbP (d:=Za) e,ZkP,Zmq,Zkv,ZmK,ZlI] at hR'
  simp only[decide_eq_true e',Int.toNat_natCast,cond_true]
  have hpick:ZeA V p (eqJ V p i) i=if Ze V (p.getD i Za)≠0∧(p.getD i Za).1=1∧(eqJ V p i < 0∨Zbh (Ze V (p.getD i Za)) < Zbh (Ze V (p.getD (eqJ V p i).toNat Za))) then (i:Int) else eqJ V p i:=rfl
  rw[hpick] at hR'
  obtain⟨c,hq⟩:∃ c,p.getD i Za=c:=⟨_,rfl⟩
  simp only[hq] at hm hR' ⊢
  have hcn:=hN.c hm
  have hlen:(V:Int) < (c.2.2.1.length:Int):=by have:=hcn.2;omega
  have hcoef:c.2.2.1.getD V 0=Ze V c:=rfl
  simp only[hcoef]
  have hfi:Zm IntKind.i64 ((i:Int)+1):=⟨by omega,by omega⟩
  have l1:=Zdi (f:=fun c=>decide (Ze V c=0)) (p:=p) i
  have l2:(Zgn V (p.take i)).length≤i:=Zdi i
  have l3:(Zb8 V (p.take i)).length≤i:=Zdi i
  have l4:(upP V (p.take i)).length≤i:=Zdi i
  have l1':(Zb1 V (p.take i)).length≤i:=by unfold Zb1;rw[List.length_map];exact l1
  refine⟨⟨by omega,e'⟩,⟨by omega,hlen⟩,?_⟩
  by_cases h0:Ze V c=0
  ·rw[show (Ze V c == 0)=true by simpa using h0,cond_true]
   rw[if_neg (fun h=>h.1 h0),if_pos h0,if_neg (fun h=>h.1 h0),if_neg (fun h=>h.1 h0),if_neg (fun h=>h.1 h0),List.append_nil,List.append_nil,List.append_nil] at hR'
   exact⟨⟨by show c.2.2.1.length≤1048576;omega,by show (0:Int)≤V;omega,by show (V:Int) < (c.2.2.1.length:Int);omega⟩,⟨by simp only[List.length_singleton];omega,by simp only[List.length_singleton];omega⟩,hfi,hR'⟩
  ·rw[show (Ze V c == 0)=false by simpa using h0,cond_false]
   rw[if_neg (show ¬ Ze V c=0 from h0),List.append_nil] at hR'
   by_cases h1:c.1=1
   ·rw[show (c.1 == 1)=true by simpa using h1,cond_true]
    rw[if_neg (show ¬ (Ze V c≠0∧c.1=2) from fun h=>by omega),if_neg (show ¬ (Ze V c≠0∧c.1≠1∧c.1≠2∧0 < Ze V c) from fun h=>h.2.1 h1),if_neg (show ¬ (Ze V c≠0∧c.1≠1∧c.1≠2∧¬ 0 < Ze V c) from fun h=>h.2.1 h1),List.append_nil,List.append_nil,List.append_nil] at hR'
    have hJ:=Zm0 V p i (by omega)
    obtain⟨E,hE⟩:∃ E,eqJ V p i=E:=⟨_,rfl⟩
    simp only[hE] at hJ hR' ⊢
    by_cases hE0:E < 0
    ·simp only[decide_eq_true hE0,Bool.not_true,Bool.true_or,cond_true]
     rw[if_pos ⟨h0,h1,.inl hE0⟩] at hR'
     simp only[Bool.false_eq_true,false_implies,true_and,Bool.true_eq_false]
     exact⟨hfi,hR'⟩
    ·have hEp:0≤E∧E < (i:Int):=by rcases hJ with h | h<;>omega
     have hmE:=Zi (d:=Za) (show E.toNat < p.length by omega)
     obtain⟨ce,hce⟩:∃ ce,p.getD E.toNat Za=ce:=⟨_,rfl⟩
     simp only[hce] at hmE hR' ⊢
     have hce2:=(hN.c hmE).2
     have hcoefe:ce.2.2.1.getD V 0=Ze V ce:=rfl
     simp only[hcoefe,decide_eq_false hE0,Bool.not_false,Bool.false_or]
     refine⟨fun h=>⟨h,hszc c hm⟩,fun h=>⟨h,h,by omega,by omega⟩,fun h=>⟨h,trivial⟩,fun h=>⟨h,trivial⟩,fun h=>⟨h,trivial⟩,fun h=>⟨h,h,by omega,by omega⟩,fun h=>⟨h,trivial⟩,fun h=>⟨h,hszc ce hmE⟩,fun h=>⟨h,h,trivial⟩,fun _=>trivial,?_⟩
     by_cases hlt:Zbh (Ze V c) < Zbh (Ze V ce)
     ·rw[decide_eq_true hlt,cond_true]
      rw[if_pos ⟨h0,h1,.inr hlt⟩] at hR'
      exact⟨hfi,hR'⟩
     ·rw[decide_eq_false hlt,cond_false]
      rw[if_neg (fun h=>h.2.2.elim hE0 hlt)] at hR'
      exact⟨hfi,hR'⟩
   ·rw[show (c.1 == 1)=false by simpa using h1,cond_false]
    rw[if_neg (fun h=>h1 h.2.1)] at hR'
    by_cases h2:c.1=2
    ·rw[show (c.1 == 2)=true by simpa using h2,cond_true]
     rw[if_pos ⟨h0,h2⟩,if_neg (fun h=>h.2.2.1 h2),if_neg (fun h=>h.2.2.1 h2),List.append_nil,List.append_nil] at hR'
     exact⟨⟨by simp only[List.length_singleton];omega,by simp only[List.length_singleton];omega⟩,hfi,hR'⟩
    ·rw[show (c.1 == 2)=false by simpa using h2,cond_false]
     rw[if_neg (show ¬ (Ze V c≠0∧c.1=2) from fun h=>h2 h.2),List.append_nil] at hR'
     by_cases hpos:0 < Ze V c
     ·rw[decide_eq_true hpos,cond_true]
      rw[if_pos ⟨h0,h1,h2,hpos⟩,if_neg (fun h=>h.2.2.2 hpos),List.append_nil] at hR'
      exact⟨⟨by simp only[List.length_singleton];omega,by simp only[List.length_singleton];omega⟩,hfi,hR'⟩
     ·rw[decide_eq_false hpos,cond_false]
      rw[if_neg (fun h=>hpos h.2.2.2),if_pos ⟨h0,h1,h2,hpos⟩,List.append_nil] at hR'
      exact⟨⟨by simp only[List.length_singleton];omega,by simp only[List.length_singleton];omega⟩,hfi,hR'⟩
 have:i=p.length:=by omega
 subst this
 simp only[Int.lt_irrefl,decide_false,cond_false,List.take_length]
 have hJ:=Zm0 V p p.length (Nat.le_refl _)
 have hJe:eqJ V p p.length=eqI V p:=rfl
 rw[hJe] at hJ ⊢
 have hsh:ZT p N V=match Zc9 p N V with
  | none=>([],3)
  | some l=>ZeH l:=rfl
 have hN':pieceN p (N:Int):=hN
 by_cases hE:0≤eqI V p
 ·rw[decide_eq_true hE,cond_true]
  rcases hJ with h | ⟨h1,h2,h3,h4⟩
  ·omega
  ·have hS:Zc9 p N V=some [ZcT V p (eqI V p).toNat]:=by unfold Zc9;rw[if_pos hE]
   rw[hsh,hS]
   exact⟨⟨⟨(N:Int),hN,by show (0:Int)≤V;omega,hv1⟩,h1,h2,h3⟩,Zl0 (ZeS hN (v:=V) (by omega) (by omega) h3),rfl⟩
 ·rw[decide_eq_false hE,cond_false]
  have hno1:∀ c∈Zu V p,c.1≠1:=fun c hc=>by
   have hcp:=ZaT.1 hc
   obtain⟨j,hj,hjc⟩:=Zb9 (d:=Za) hcp.1
   rcases hJ with ⟨_,h⟩ | h
   ·have:=h j hj
    rw[hjc] at this
    exact this hcp.2
   ·omega
  refine⟨fun h=>⟨h,trivial⟩,fun h=>⟨h,trivial⟩,fun h=>⟨h,trivial⟩,fun h=>⟨h,trivial⟩,fun h=>⟨h,trivial⟩,fun h=>⟨h,fun h2=>by rw[h,h2];rfl⟩,fun h=>h,?_⟩
  have hnil:∀ l:List Zc,(((l.length:Nat):Int) == 0)=l.isEmpty:=fun l=>by cases l<;>simp;omega
  simp only[hnil]
  have hlowlen:(Zb8 V p).length≤400:=Nat.le_trans (List.length_filter_le _ _) h400
  have huplen:(upP V p).length≤400:=Nat.le_trans (List.length_filter_le _ _) h400
  by_cases hA:Zgn V p=[]∧(Zb8 V p=[]∨upP V p=[])
  ·have hc:((Zgn V p).isEmpty&&((Zb8 V p).isEmpty||(upP V p).isEmpty))=true:=by
    rcases hA with ⟨h1,h2 | h2⟩<;>simp[h1,h2]
   rw[hc,cond_true]
   have hS:Zc9 p N V=some [Zb1 V p]:=by unfold Zc9;rw[if_neg hE,if_pos hA]
   rw[hsh,hS]
   exact⟨Zl0 (n:=N - 1) ⟨by have:=ZcM (v:=V) (p:=p);omega,Zfp hN (v:=V) (by omega)⟩,rfl⟩
  ·have hc:((Zgn V p).isEmpty&&((Zb8 V p).isEmpty||(upP V p).isEmpty))=false:=by
    cases hh:((Zgn V p).isEmpty&&((Zb8 V p).isEmpty||(upP V p).isEmpty)) with
    | false=>rfl
    | true =>
      simp only[Bool.and_eq_true,Bool.or_eq_true,List.isEmpty_iff] at hh
      exact absurd hh hA
   rw[hc,cond_false]
   refine Lp.iter (Zb8 V p).length (fun i z=>z=((i:Int),(Zgn V p).isEmpty&&((Zb8 V p).take i).all fun x=>(upP V p).all fun y=>decide (Ze V x=1∨Ze V y=-1))) (by simp) ?_
   rintro i z hi rfl R1 hR1
   by_cases e:i < (Zb8 V p).length
   ·have e':(i:Int) < ((Zb8 V p).length:Int):=by omega
    have hm:=Zi (d:=Za) e
    have hR1':=hR1 e _ rfl
    rw[ZbP (d:=Za) e,List.all_append] at hR1'
    simp only[decide_eq_true e',Int.toNat_natCast,cond_true]
    obtain⟨x,hx⟩:∃ x,(Zb8 V p).getD i Za=x:=⟨_,rfl⟩
    simp only[hx] at hm hR1' ⊢
    have hxn:=hN.c (List.mem_filter.1 hm).1
    have hxl:(V:Int) < (x.2.2.1.length:Int):=by have:=hxn.2;omega
    refine⟨⟨by omega,e'⟩,e,?_⟩
    have hcoefx:x.2.2.1.getD V 0=Ze V x:=rfl
    simp only[hcoefx]
    obtain⟨b0,hb0⟩:∃ b0,((Zgn V p).isEmpty&&((Zb8 V p).take i).all fun x=>(upP V p).all fun y=>decide (Ze V x=1∨Ze V y=-1))=b0:=⟨_,rfl⟩
    rw[← Bool.and_assoc,hb0] at hR1'
    simp only[hb0]
    refine Lp.iter (upP V p).length (fun j z=>z=((j:Int),b0&&((upP V p).take j).all fun y=>decide (Ze V x=1∨Ze V y=-1))) (by simp) ?_
    rintro j z hj rfl R2 hR2
    by_cases ej:j < (upP V p).length
    ·have ej':(j:Int) < ((upP V p).length:Int):=by omega
     have hmy:=Zi (d:=Za) ej
     have hR2':=hR2 ej _ rfl
     rw[ZbP (d:=Za) ej,List.all_append] at hR2'
     simp only[decide_eq_true ej',Int.toNat_natCast,cond_true]
     obtain⟨y,hy⟩:∃ y,(upP V p).getD j Za=y:=⟨_,rfl⟩
     simp only[hy] at hmy hR2' ⊢
     have hyn:=hN.c (List.mem_filter.1 hmy).1
     have hyl:(V:Int) < (y.2.2.1.length:Int):=by have:=hyn.2;omega
     have hcoefy:y.2.2.1.getD V 0=Ze V y:=rfl
     simp only[hcoefy]
     obtain⟨b1,hb1⟩:∃ b1,(b0&&((upP V p).take j).all fun y=>decide (Ze V x=1∨Ze V y=-1))=b1:=⟨_,rfl⟩
     rw[← Bool.and_assoc,hb1] at hR2'
     simp only[hb1]
     refine⟨⟨by omega,ej'⟩,ej,fun h=>⟨h,trivial⟩,fun h=>⟨h,trivial⟩,fun h=>⟨h,h,by omega,hxl⟩,fun h=>⟨h,trivial⟩,fun h=>⟨h,trivial⟩,fun h=>⟨h,trivial⟩,fun h=>⟨h,trivial⟩,fun h=>⟨h,trivial⟩,fun h=>⟨h,h,by omega,hyl⟩,fun h=>⟨h,trivial⟩,fun h=>⟨h,trivial⟩,fun h=>⟨h,fun h2=>by rw[h,h2];rfl⟩,fun h=>h,⟨by omega,by omega⟩,?_⟩
     have hbb:(Ze V x == 1||Ze V y == -(1:Int))=([y].all fun y=>decide (Ze V x=1∨Ze V y=-1)):=by
      rw[List.all_cons,List.all_nil,Bool.and_true]
      by_cases k1:Ze V x=1<;>by_cases k2:Ze V y=-1<;>simp[k1,k2]
     rw[hbb]
     exact hR2'
    ·have:j=(upP V p).length:=by omega
     subst this
     simp only[Int.lt_irrefl,decide_false,cond_false,List.take_length]
     refine⟨⟨by omega,by omega⟩,?_⟩
     rw[List.all_cons,List.all_nil,Bool.and_true] at hR1'
     exact hR1'
   ·have:i=(Zb8 V p).length:=by omega
    subst this
    simp only[Int.lt_irrefl,decide_false,cond_false,List.take_length]
    have hex:((Zgn V p).isEmpty&&(Zb8 V p).all fun x=>(upP V p).all fun y=>decide (Ze V x=1∨Ze V y=-1))=ZhP V p:=rfl
    rw[hex]
    cases hX:ZhP V p with
    | true =>
      rw[cond_true]
      have hS:Zc9 p N V=some [Zj1 V p]:=by unfold Zc9;rw[if_neg hE,if_neg hA,if_pos hX]
      rw[hsh,hS]
      refine Lp.flat (Zb8 V p) Za (Zb1 V p) (fun x=>(upP V p).map (Znq V x)) (by omega) (fun i R hi hi' hf hR=>?_) (fun R=>?_)
      ·have hm:=Zi (d:=Za) hi
       simp only[decide_eq_true hi',Int.toNat_natCast,cond_true]
       obtain⟨x,hx⟩:∃ x,(Zb8 V p).getD i Za=x:=⟨_,rfl⟩
       simp only[hx] at hm hR ⊢
       have hxn:=hN.c (List.mem_filter.1 hm).1
       have hxl:(V:Int) < (x.2.2.1.length:Int):=by have:=hxn.2;omega
       have hcoefx:x.2.2.1.getD V 0=Ze V x:=rfl
       have hrx:(Zdg x.2.2.1 V,x.2.2.2)=ZaN V x:=rfl
       simp only[hcoefx,hrx]
       refine⟨⟨by omega,hi'⟩,hi,?_⟩
       have hol:(Zb1 V p++((Zb8 V p).take i).flatMap fun x=>(upP V p).map (Znq V x)).length≤160400:=by
        have h1:=ZcW (g:=fun x=>(upP V p).map (Znq V x)) (k:=400) (l:=(Zb8 V p).take i) fun x _=>by rw[List.length_map];exact huplen
        have h2:((Zb8 V p).take i).length≤400:=by rw[List.length_take];omega
        have h3:=Nat.mul_le_mul h2 (Nat.le_refl 400)
        have h4:=ZcM (v:=V) (p:=p)
        rw[List.length_append];omega
       obtain⟨o,ho⟩:∃ o,Zb1 V p++((Zb8 V p).take i).flatMap (fun x=>(upP V p).map (Znq V x))=o:=⟨_,rfl⟩
       simp only[ho] at hol hR ⊢
       refine Lp.flt (upP V p) Za o (fun _=>true) (fun jy=>Znq V x jy.2) (by omega) (fun j t R2 hj hj' hfj htl h1 h2=>?_) (fun R2 hlen=>?_)
       ·have hmy:=Zi (d:=Za) hj
        simp only[decide_eq_true hj',Int.toNat_natCast,cond_true]
        obtain⟨y,hy⟩:∃ y,(upP V p).getD j Za=y:=⟨_,rfl⟩
        simp only[hy] at hmy h1 ⊢
        have hyn:=hN.c (List.mem_filter.1 hmy).1
        have hyl:(V:Int) < (y.2.2.1.length:Int):=by have:=hyn.2;omega
        have hcoefy:y.2.2.1.getD V 0=Ze V y:=rfl
        have hry:(Zdg y.2.2.1 V,y.2.2.2)=ZaN V y:=rfl
        simp only[hcoefy,hry]
        have hbx:=ZcP hxn.1 V
        have hby:=ZcP hyn.1 V
        have hxr:=ZcL hxn (v:=V) (by omega)
        have hyr:=ZcL hyn (v:=V) (by omega)
        refine⟨⟨by omega,hj'⟩,hj,⟨by omega,hxl⟩,⟨by show y.2.2.1.length≤1048576;omega,by show (0:Int)≤V;omega,hyl⟩,⟨by omega,hyl⟩,⟨by omega,by omega⟩,⟨by show x.2.2.1.length≤1048576;omega,by show (0:Int)≤V;omega,hxl⟩,⟨hbx,hyr.small (by omega) (by omega),by show -1048576≤-Ze V y∧-Ze V y≤1048576;omega,hxr.small (by omega) (by omega),by show (ZaN V y).1.length=(ZaN V x).1.length;rw[hxr.1,hyr.1]⟩,⟨by simp only[List.length_singleton];omega,by simp only[List.length_singleton];omega⟩,hfj,h1 trivial⟩
       ·simp only[Int.lt_irrefl,decide_false,cond_false]
        refine⟨hf,?_⟩
        have e:=Zef Za (upP V p) (fun _=>true) (Znq V x)
        rw[e,List.filter_eq_self.2 (fun _ _=>rfl)]
        exact hR
      ·simp only[Int.lt_irrefl,decide_false,cond_false]
       exact⟨Zl0 (Zhh hN (v:=V) (by omega)),rfl⟩
    | false =>
      rw[cond_false]
      have hpn:Zu V p≠[]:=fun h=>by
       have hdiv:Zgn V p=[]:=by
        apply List.eq_nil_iff_forall_not_mem.2
        intro c hc
        have hc':=List.mem_filter.1 hc
        have:c∈Zu V p:=ZaT.2 ⟨hc'.1,(by simpa using hc'.2:Ze V c≠0∧c.1=2).1⟩
        rw[h] at this;cases this
       have hlow:Zb8 V p=[]:=by
        apply List.eq_nil_iff_forall_not_mem.2
        intro c hc
        have hc':=List.mem_filter.1 hc
        have hcc:Ze V c≠0∧c.1≠1∧c.1≠2∧0 < Ze V c:=of_decide_eq_true hc'.2
        have:c∈Zu V p:=ZaT.2 ⟨hc'.1,hcc.1⟩
        rw[h] at this;cases this
       exact hA ⟨hdiv,.inl hlow⟩
      refine⟨⟨⟨(N:Int),hN,by show (0:Int)≤V;omega,hv1⟩,rfl,hpn,hno1⟩,?_⟩
      have hlen0:(p.getD 0 Za).2.2.1.length=N:=by
       have hp0:0 < p.length:=by
        rcases hp0:p with _ | ⟨c,q⟩
        ·rw[hp0] at hpn;exact absurd rfl hpn
        ·simp
       have:=(hN.c (Zi (d:=Za) hp0)).2
       omega
      have hres:Zwc p (Zb1 V p) V=if (ZbJ V p).2≠0 then ([],3) else if (Zfs V p (ZbJ V p).1).2≠0 then ([],3)
       else ZeH (Zch V p ((p.getD 0 Za).2.2.1.length - 1) (ZbJ V p).1 (Zfs V p (ZbJ V p).1).1.toNat):=rfl
      have hS:Zc9 p N V=if (ZbJ V p).2≠0 then none else if (Zfs V p (ZbJ V p).1).2≠0 then none else some (Zch V p (N - 1) (ZbJ V p).1 (Zfs V p (ZbJ V p).1).1.toNat):=by
       unfold Zc9;rw[if_neg hE,if_neg hA,if_neg (by rw[hX];simp)]
      rw[hres,hsh,hS,hlen0]
      split
      ·rfl
      ·split
       ·rfl
       ·rfl
set_option maxRecDepth 4000
def ZY.wp(x0:List Zc)(x1:Int)(x2:Int)(Q:(List (List Zc))×Int→Prop):Prop:=let v3:=Int.toNat (x2+(1:Int));(Zm IntKind.i64 (x1 - (1:Int))∧Lp (σ:=Int×Int×Int×(List (Zc))×(List ((Zc)×Int×(List Int)×Int))×(List ((Zc)×Int×(List Int)×Int))×(List ((Zc)×Int×(List Int)×Int))×List ((Zc)×Int×(List Int)×Int)) (fun y4 R4=>let v0:=List.getD x0 (Int.toNat y4.1) Za;let v1:=List.getD v0.2.2.1 (Int.toNat x2) (0:Int);let v2:=List.take (Int.toNat x2) v0.2.2.1;let v4:=[(v0.1,(v0.2.1,((v2++List.drop v3 v0.2.2.1),v0.2.2.2)))];let v5:=List.length y4.2.2.2.2.1;let v6:=List.getD y4.2.2.2.2.1 (Int.toNat y4.2.2.1) (Za,((0:Int),(([]:List Int),(0:Int))));let v8:=[(v0,(v1,((v2++List.drop v3 v0.2.2.1),v0.2.2.2)))];let v9:=List.length y4.2.2.2.2.2.1;let v10:=List.length y4.2.2.2.2.2.2.1;let v11:=List.length y4.2.2.2.2.2.2.2;let v12:=ZD.fn ((y4.2.1,(y4.2.2.2.1,(y4.2.2.2.2.1,(y4.2.2.1,(y4.2.2.2.2.2.2.1,(y4.2.2.2.2.2.2.2,y4.2.2.2.2.2.1)))))),());let v27:=List.replicate (Int.toNat y4.2.1) (0:Int);let v78:=ZA.fn ((y4.2.1,(y4.2.2.2.1,(y4.2.2.2.2.1,(y4.2.2.1,(y4.2.2.2.2.2.2.1,(y4.2.2.2.2.2.2.2,y4.2.2.2.2.2.1)))))),());cond (decide (y4.1 < ((List.length x0:Nat):Int))) (((0:Int)≤y4.1∧y4.1 < ((List.length x0:Nat):Int))∧((List.length v0.2.2.1*8)≤140737488355328∧(Zm IntKind.i64 (x2+(1:Int))∧((v0.2.2.1≠([]:List Int)∧((0:Int)≤x2∧(x2≤(x2+(1:Int))∧(x2+(1:Int))≤((List.length v0.2.2.1:Nat):Int))))∧(((0:Int)≤x2∧x2 < ((List.length v0.2.2.1:Nat):Int))∧cond (v1 == (0:Int)) ((((List.length y4.2.2.2.1+List.length v4)*48)≤140737488355328∧(List.length y4.2.2.2.1+List.length v4)≤9223372036854775807)∧(Zm IntKind.i64 (y4.1+(1:Int))∧R4 ((y4.1+(1:Int)),(y4.2.1,(y4.2.2.1,((y4.2.2.2.1++v4),y4.2.2.2.2)))))) (cond (v0.1 == (1:Int)) (((!(decide (y4.2.2.1 < (0:Int))))=true→((!(decide (y4.2.2.1 < (0:Int))))=true∧Zm IntKind.i64 (-v1)))∧(((!(decide (y4.2.2.1 < (0:Int))))=true→((!(decide (y4.2.2.1 < (0:Int))))=true∧((!(decide (y4.2.2.1 < (0:Int))))=true∧True)))∧(((!(decide (y4.2.2.1 < (0:Int))))=true→((!(decide (y4.2.2.1 < (0:Int))))=true∧True))∧(((!(decide (y4.2.2.1 < (0:Int))))=true→((!(decide (y4.2.2.1 < (0:Int))))=true∧True))∧(((!(decide (y4.2.2.1 < (0:Int))))=true→((!(decide (y4.2.2.1 < (0:Int))))=true∧((!(decide (y4.2.2.1 < (0:Int))))=true∧((0:Int)≤y4.2.2.1∧y4.2.2.1 < ((v5:Nat):Int)))))∧(((!(decide (y4.2.2.1 < (0:Int))))=true→((!(decide (y4.2.2.1 < (0:Int))))=true∧True))∧(((!(decide (y4.2.2.1 < (0:Int))))=true→((!(decide (y4.2.2.1 < (0:Int))))=true∧Int.toNat y4.2.2.1 < v5))∧(((!(decide (y4.2.2.1 < (0:Int))))=true→((!(decide (y4.2.2.1 < (0:Int))))=true∧True))∧(((!(decide (y4.2.2.1 < (0:Int))))=true→((!(decide (y4.2.2.1 < (0:Int))))=true∧True))∧(((!(decide (y4.2.2.1 < (0:Int))))=true→((!(decide (y4.2.2.1 < (0:Int))))=true∧((!(decide (y4.2.2.1 < (0:Int))))=true∧((0:Int)≤y4.2.2.1∧y4.2.2.1 < ((v5:Nat):Int)))))∧(((!(decide (y4.2.2.1 < (0:Int))))=true→((!(decide (y4.2.2.1 < (0:Int))))=true∧True))∧(((!(decide (y4.2.2.1 < (0:Int))))=true→((!(decide (y4.2.2.1 < (0:Int))))=true∧Int.toNat y4.2.2.1 < v5))∧(((!(decide (y4.2.2.1 < (0:Int))))=true→((!(decide (y4.2.2.1 < (0:Int))))=true∧Zm IntKind.i64 (-v6.2.1)))∧(((!(decide (y4.2.2.1 < (0:Int))))=true→((!(decide (y4.2.2.1 < (0:Int))))=true∧((!(decide (y4.2.2.1 < (0:Int))))=true∧True)))∧(((!(decide (y4.2.2.1 < (0:Int))))=true→((!(decide (y4.2.2.1 < (0:Int))))=true∧((!(decide (y4.2.2.1 < (0:Int))))=true∧True)))∧((decide (y4.2.2.1 < (0:Int))=false→(!(decide (y4.2.2.1 < (0:Int))))=true)∧cond (decide (y4.2.2.1 < (0:Int))||decide (Max.max v1 (-v1) < (Max.max v6.2.1 (-v6.2.1)))) ((((v5+List.length v8)*88)≤140737488355328∧(v5+List.length v8)≤9223372036854775807)∧(Zm IntKind.i64 (y4.1+(1:Int))∧R4 ((y4.1+(1:Int)),(y4.2.1,(((v5:Nat):Int),(y4.2.2.2.1,((y4.2.2.2.2.1++v8),y4.2.2.2.2.2))))))) ((((v5+List.length v8)*88)≤140737488355328∧(v5+List.length v8)≤9223372036854775807)∧(Zm IntKind.i64 (y4.1+(1:Int))∧R4 ((y4.1+(1:Int)),(y4.2.1,(y4.2.2.1,(y4.2.2.2.1,((y4.2.2.2.2.1++v8),y4.2.2.2.2.2))))))))))))))))))))))) (cond (v0.1 == (2:Int)) ((((v9+List.length v8)*88)≤140737488355328∧(v9+List.length v8)≤9223372036854775807)∧((((v5+List.length v8)*88)≤140737488355328∧(v5+List.length v8)≤9223372036854775807)∧(Zm IntKind.i64 (y4.1+(1:Int))∧R4 ((y4.1+(1:Int)),(y4.2.1,(y4.2.2.1,(y4.2.2.2.1,((y4.2.2.2.2.1++v8),((y4.2.2.2.2.2.1++v8),y4.2.2.2.2.2.2))))))))) (cond (decide ((0:Int) < v1)) ((((v10+List.length v8)*88)≤140737488355328∧(v10+List.length v8)≤9223372036854775807)∧((((v5+List.length v8)*88)≤140737488355328∧(v5+List.length v8)≤9223372036854775807)∧(Zm IntKind.i64 (y4.1+(1:Int))∧R4 ((y4.1+(1:Int)),(y4.2.1,(y4.2.2.1,(y4.2.2.2.1,((y4.2.2.2.2.1++v8),(y4.2.2.2.2.2.1,((y4.2.2.2.2.2.2.1++v8),y4.2.2.2.2.2.2.2)))))))))) ((((v11+List.length v8)*88)≤140737488355328∧(v11+List.length v8)≤9223372036854775807)∧((((v5+List.length v8)*88)≤140737488355328∧(v5+List.length v8)≤9223372036854775807)∧(Zm IntKind.i64 (y4.1+(1:Int))∧R4 ((y4.1+(1:Int)),(y4.2.1,(y4.2.2.1,(y4.2.2.2.1,((y4.2.2.2.2.1++v8),(y4.2.2.2.2.2.1,(y4.2.2.2.2.2.2.1,(y4.2.2.2.2.2.2.2++v8))))))))))))))))))) (cond (decide ((0:Int)≤y4.2.2.1)) (ZD.pre ((y4.2.1,(y4.2.2.2.1,(y4.2.2.2.2.1,(y4.2.2.1,(y4.2.2.2.2.2.2.1,(y4.2.2.2.2.2.2.2,y4.2.2.2.2.2.1)))))),())∧Lp (σ:=Int×(List (List (Zc)))×(ByteArray→Option Bool)) (fun y6 R6=>let v13:=List.getD v12 (Int.toNat y6.1) ([]:List (Zc));let v14:=Zq.fn ((Zb.fn (v13,())).1,());let v16:=[(Zb.fn (v13,())).1];cond (decide (y6.1 < ((List.length v12:Nat):Int))) (((0:Int)≤y6.1∧y6.1 < ((List.length v12:Nat):Int))∧(Zb.pre (v13,())∧cond (((Zb.fn (v13,())).2).2 != (0:Int)) (((!((0:Int) != (0:Int)))=true→((!((0:Int) != (0:Int)))=true∧True))∧((((0:Int) != (0:Int))=false→(!((0:Int) != (0:Int)))=true)∧cond (((0:Int) != (0:Int))||(((Zb.fn (v13,())).2).2 != (0:Int))) (Q (([]:List (List (Zc))),(3:Int))) (Q (([]:List (List (Zc))),(0:Int))))) (((!(((Zb.fn (v13,())).2).1))=true→((!(((Zb.fn (v13,())).2).1))=true∧Zq.pre ((Zb.fn (v13,())).1,())))∧(((!(((Zb.fn (v13,())).2).1))=true→((!(((Zb.fn (v13,())).2).1))=true∧((!(((Zb.fn (v13,())).2).1))=true∧True)))∧((((Zb.fn (v13,())).2).1=false→(!(((Zb.fn (v13,())).2).1))=true)∧cond (((Zb.fn (v13,())).2).1||(Option.getD (y6.2.2 v14) false)) (Zm IntKind.i64 (y6.1+(1:Int))∧R6 ((y6.1+(1:Int)),y6.2)) (Zq.pre ((Zb.fn (v13,())).1,())∧((((List.length y6.2.1+List.length v16)*24)≤140737488355328∧(List.length y6.2.1+List.length v16)≤9223372036854775807)∧cond (decide ((400:Int) < (((List.length (y6.2.1++v16)):Nat):Int))) (((!((0:Int) != (0:Int)))=true→((!((0:Int) != (0:Int)))=true∧True))∧((((0:Int) != (0:Int))=false→(!((0:Int) != (0:Int)))=true)∧Q (([]:List (List (Zc))),(3:Int)))) (Zm IntKind.i64 (y6.1+(1:Int))∧R6 ((y6.1+(1:Int)),((y6.2.1++v16),ZdP y6.2.2 v14 true)))))))))) (((!((0:Int) != (0:Int)))=true→((!((0:Int) != (0:Int)))=true∧True))∧((((0:Int) != (0:Int))=false→(!((0:Int) != (0:Int)))=true)∧Q (y6.2.1,(0:Int))))) ((0:Int),(([]:List (List (Zc))),fun (a6:ByteArray)=>(none:Option Bool)))) (cond (decide ((0:Int) < ((v9:Nat):Int))) (Lp (σ:=Int×List Int) (fun y6 R6=>let v18:=List.getD y4.2.2.2.2.1 (Int.toNat y6.1) (Za,((0:Int),(([]:List Int),(0:Int))));let v19:=Max.max v18.2.1 (-v18.2.1);cond (decide (y6.1 < ((v5:Nat):Int))) (((0:Int)≤y6.1∧y6.1 < ((v5:Nat):Int))∧(Int.toNat y6.1 < v5∧(Zm IntKind.i64 (-v18.2.1)∧((((List.length y6.2+List.length [v19])*8)≤140737488355328∧(List.length y6.2+List.length [v19])≤9223372036854775807)∧(Zm IntKind.i64 (y6.1+(1:Int))∧R6 ((y6.1+(1:Int)),(y6.2++[v19]))))))) (ZM.pre (y6.2,())∧cond ((ZM.fn (y6.2,())).2 != (0:Int)) (((!((3:Int) != (0:Int)))=true→((!((3:Int) != (0:Int)))=true∧True))∧((((3:Int) != (0:Int))=false→(!((3:Int) != (0:Int)))=true)∧Q (([]:List (List (Zc))),(3:Int)))) (Lp (σ:=Int×(List Int)×List ((Zc)×Int×(List Int)×Int)) (fun y8 R8=>let v21:=List.getD y8.2.2 (Int.toNat y8.1) (Za,((0:Int),(([]:List Int),(0:Int))));let v22:=Max.max v21.2.1 (-v21.2.1);let v23:=Int.tdiv ((ZM.fn (y6.2,())).1) v22;let v24:=List.length ([(v21.1.2.1*v23)]);let v26:=List.set y8.2.2 (Int.toNat y8.1) ((v21.1.1,((v21.1.2.1*v23),(([]:List Int),(0:Int)))),((v21.2.1*v23),(ZO.fn (v23,(v21.2.2,((0:Int),(v21.2.2,())))))));cond (decide (y8.1 < ((v5:Nat):Int))) (((0:Int)≤y8.1∧y8.1 < ((List.length y8.2.2:Nat):Int))∧(Int.toNat y8.1 < List.length y8.2.2∧(Zm IntKind.i64 (-v21.2.1)∧((v22≠(0:Int)∧Zm IntKind.i64 v23)∧(Zm IntKind.i64 (v21.1.2.1*v23)∧(Zm IntKind.i64 (v21.2.1*v23)∧(ZO.pre (v23,(v21.2.2,((0:Int),(v21.2.2,()))))∧(((0:Int)≤y8.1∧y8.1 < ((List.length y8.2.2:Nat):Int))∧(Int.toNat y8.1 < List.length y8.2.2∧cond (v21.1.1 == (2:Int)) (Zm IntKind.i64 (v21.1.2.1*v23)∧((((List.length y8.2.1+v24)*8)≤140737488355328∧(List.length y8.2.1+v24)≤9223372036854775807)∧(Zm IntKind.i64 (y8.1+(1:Int))∧R8 ((y8.1+(1:Int)),((y8.2.1++[(v21.1.2.1*v23)]),v26))))) (Zm IntKind.i64 (y8.1+(1:Int))∧R8 ((y8.1+(1:Int)),(y8.2.1,v26)))))))))))) (ZM.pre (y8.2.1,())∧cond ((ZM.fn (y8.2.1,())).2 != (0:Int)) (((!((3:Int) != (0:Int)))=true→((!((3:Int) != (0:Int)))=true∧True))∧((((3:Int) != (0:Int))=false→(!((3:Int) != (0:Int)))=true)∧Q (([]:List (List (Zc))),(3:Int)))) (((!(((v10:Nat):Int) == (0:Int)))=true→((!(((v10:Nat):Int) == (0:Int)))=true∧True))∧(((!(((v10:Nat):Int) == (0:Int)))=true→((!(((v10:Nat):Int) == (0:Int)))=true∧True))∧(((!(((v10:Nat):Int) == (0:Int)))=true→((!(((v10:Nat):Int) == (0:Int)))=true∧True))∧(((((v10:Nat):Int) == (0:Int))=false→(!(((v10:Nat):Int) == (0:Int)))=true)∧cond ((((v10:Nat):Int) == (0:Int))||(((v11:Nat):Int) == (0:Int))) (Lp (σ:=Int×(List (List (Zc)))×(ByteArray→Option Bool)) (fun y10 R10=>let v28:=Zp.fn ((y4.2.1,(y4.2.2.2.1,(y8.2.2,(y4.2.2.1,(y4.2.2.2.2.2.2.1,(y4.2.2.2.2.2.2.2,y4.2.2.2.2.2.1)))))),((ZM.fn (y6.2,())).1,((v27,y10.1),(false,()))));let v29:=Zq.fn ((Zb.fn (v28,())).1,());let v31:=[(Zb.fn (v28,())).1];cond (decide (y10.1 < (ZM.fn (y8.2.1,())).1)) (((0:Int)≤y4.2.1∧(y4.2.1≤y4.2.1∧((y4.2.1*((8:Nat):Int))≤(140737488355328:Int)∧y4.2.1≤(9223372036854775807:Int))))∧(Zp.pre ((y4.2.1,(y4.2.2.2.1,(y8.2.2,(y4.2.2.1,(y4.2.2.2.2.2.2.1,(y4.2.2.2.2.2.2.2,y4.2.2.2.2.2.1)))))),((ZM.fn (y6.2,())).1,((v27,y10.1),(false,()))))∧(Zb.pre (v28,())∧cond (((Zb.fn (v28,())).2).2 != (0:Int)) (((!((0:Int) != (0:Int)))=true→((!((0:Int) != (0:Int)))=true∧True))∧((((0:Int) != (0:Int))=false→(!((0:Int) != (0:Int)))=true)∧cond (((0:Int) != (0:Int))||(((Zb.fn (v28,())).2).2 != (0:Int))) (Q (([]:List (List (Zc))),(3:Int))) (Q (([]:List (List (Zc))),(0:Int))))) (((!(((Zb.fn (v28,())).2).1))=true→((!(((Zb.fn (v28,())).2).1))=true∧Zq.pre ((Zb.fn (v28,())).1,())))∧(((!(((Zb.fn (v28,())).2).1))=true→((!(((Zb.fn (v28,())).2).1))=true∧((!(((Zb.fn (v28,())).2).1))=true∧True)))∧((((Zb.fn (v28,())).2).1=false→(!(((Zb.fn (v28,())).2).1))=true)∧cond (((Zb.fn (v28,())).2).1||(Option.getD (y10.2.2 v29) false)) (Zm IntKind.i64 (y10.1+(1:Int))∧R10 ((y10.1+(1:Int)),y10.2)) (Zq.pre ((Zb.fn (v28,())).1,())∧((((List.length y10.2.1+List.length v31)*24)≤140737488355328∧(List.length y10.2.1+List.length v31)≤9223372036854775807)∧cond (decide ((400:Int) < (((List.length (y10.2.1++v31)):Nat):Int))) (((!((0:Int) != (0:Int)))=true→((!((0:Int) != (0:Int)))=true∧True))∧((((0:Int) != (0:Int))=false→(!((0:Int) != (0:Int)))=true)∧Q (([]:List (List (Zc))),(3:Int)))) (Zm IntKind.i64 (y10.1+(1:Int))∧R10 ((y10.1+(1:Int)),((y10.2.1++v31),ZdP y10.2.2 v29 true))))))))))) (((!((0:Int) != (0:Int)))=true→((!((0:Int) != (0:Int)))=true∧True))∧((((0:Int) != (0:Int))=false→(!((0:Int) != (0:Int)))=true)∧Q (y10.2.1,(0:Int))))) ((0:Int),(([]:List (List (Zc))),fun (a10:ByteArray)=>(none:Option Bool)))) (Lp (σ:=Int×(List (List (Zc)))×(ByteArray→Option Bool)) (fun y10 R10=>let v33:=List.getD y8.2.2 (Int.toNat y10.1) (Za,((0:Int),(([]:List Int),(0:Int))));let v34:=ZO.fn ((-(1:Int)),(v33.2.2,((0:Int),(v33.2.2,()))));cond (decide (y10.1 < ((List.length y8.2.2:Nat):Int))) (((0:Int)≤y10.1∧y10.1 < ((List.length y8.2.2:Nat):Int))∧(((!(v33.1.1 == (2:Int)))=true→((!(v33.1.1 == (2:Int)))=true∧True))∧(((!(v33.1.1 == (2:Int)))=true→((!(v33.1.1 == (2:Int)))=true∧True))∧(((!(v33.1.1 == (2:Int)))=true→((!(v33.1.1 == (2:Int)))=true∧((!(v33.1.1 == (2:Int)))=true∧True)))∧(((v33.1.1 == (2:Int))=false→(!(v33.1.1 == (2:Int)))=true)∧cond ((v33.1.1 == (2:Int))||(decide ((0:Int) < v33.2.1) != decide (((v10:Nat):Int)≤((v11:Nat):Int)))) (Zm IntKind.i64 (y10.1+(1:Int))∧R10 ((y10.1+(1:Int)),y10.2)) (Lp (σ:=Int×(List (List (Zc)))×(ByteArray→Option Bool)) (fun y12 R12=>let v35:=Zau.fn (v33.2.2,((-y12.1),()));let v36:=Zp.fn ((y4.2.1,(y4.2.2.2.1,(y8.2.2,(y4.2.2.1,(y4.2.2.2.2.2.2.1,(y4.2.2.2.2.2.2.2,y4.2.2.2.2.2.1)))))),((ZM.fn (y6.2,())).1,(v35,(true,()))));let v37:=Zq.fn ((Zb.fn (v36,())).1,());let v39:=[(Zb.fn (v36,())).1];let v41:=Zau.fn (v34,(y12.1,()));let v42:=Zp.fn ((y4.2.1,(y4.2.2.2.1,(y8.2.2,(y4.2.2.1,(y4.2.2.2.2.2.2.1,(y4.2.2.2.2.2.2.2,y4.2.2.2.2.2.1)))))),((ZM.fn (y6.2,())).1,(v41,(true,()))));let v43:=Zq.fn ((Zb.fn (v42,())).1,());let v45:=[(Zb.fn (v42,())).1];cond (decide (y12.1 < (ZM.fn (y8.2.1,())).1)) (ZO.pre ((-(1:Int)),(v33.2.2,((0:Int),(v33.2.2,()))))∧(Zau.pre (v34,(y12.1,()))∧cond (!(decide (((v10:Nat):Int)≤((v11:Nat):Int)))) (Zm IntKind.i64 (-y12.1)∧(Zau.pre (v33.2.2,((-y12.1),()))∧(Zp.pre ((y4.2.1,(y4.2.2.2.1,(y8.2.2,(y4.2.2.1,(y4.2.2.2.2.2.2.1,(y4.2.2.2.2.2.2.2,y4.2.2.2.2.2.1)))))),((ZM.fn (y6.2,())).1,(v35,(true,()))))∧(Zb.pre (v36,())∧cond (((Zb.fn (v36,())).2).2 != (0:Int)) (((!((0:Int) != (0:Int)))=true→((!((0:Int) != (0:Int)))=true∧True))∧((((0:Int) != (0:Int))=false→(!((0:Int) != (0:Int)))=true)∧cond (((0:Int) != (0:Int))||(((Zb.fn (v36,())).2).2 != (0:Int))) (Q (([]:List (List (Zc))),(3:Int))) (Q (([]:List (List (Zc))),(0:Int))))) (((!(((Zb.fn (v36,())).2).1))=true→((!(((Zb.fn (v36,())).2).1))=true∧Zq.pre ((Zb.fn (v36,())).1,())))∧(((!(((Zb.fn (v36,())).2).1))=true→((!(((Zb.fn (v36,())).2).1))=true∧((!(((Zb.fn (v36,())).2).1))=true∧True)))∧((((Zb.fn (v36,())).2).1=false→(!(((Zb.fn (v36,())).2).1))=true)∧cond (((Zb.fn (v36,())).2).1||(Option.getD (y12.2.2 v37) false)) (Zm IntKind.i64 (y12.1+(1:Int))∧R12 ((y12.1+(1:Int)),y12.2)) (Zq.pre ((Zb.fn (v36,())).1,())∧((((List.length y12.2.1+List.length v39)*24)≤140737488355328∧(List.length y12.2.1+List.length v39)≤9223372036854775807)∧cond (decide ((400:Int) < (((List.length (y12.2.1++v39)):Nat):Int))) (((!((0:Int) != (0:Int)))=true→((!((0:Int) != (0:Int)))=true∧True))∧((((0:Int) != (0:Int))=false→(!((0:Int) != (0:Int)))=true)∧Q (([]:List (List (Zc))),(3:Int)))) (Zm IntKind.i64 (y12.1+(1:Int))∧R12 ((y12.1+(1:Int)),((y12.2.1++v39),ZdP y12.2.2 v37 true)))))))))))) (Zp.pre ((y4.2.1,(y4.2.2.2.1,(y8.2.2,(y4.2.2.1,(y4.2.2.2.2.2.2.1,(y4.2.2.2.2.2.2.2,y4.2.2.2.2.2.1)))))),((ZM.fn (y6.2,())).1,(v41,(true,()))))∧(Zb.pre (v42,())∧cond (((Zb.fn (v42,())).2).2 != (0:Int)) (((!((0:Int) != (0:Int)))=true→((!((0:Int) != (0:Int)))=true∧True))∧((((0:Int) != (0:Int))=false→(!((0:Int) != (0:Int)))=true)∧cond (((0:Int) != (0:Int))||(((Zb.fn (v42,())).2).2 != (0:Int))) (Q (([]:List (List (Zc))),(3:Int))) (Q (([]:List (List (Zc))),(0:Int))))) (((!(((Zb.fn (v42,())).2).1))=true→((!(((Zb.fn (v42,())).2).1))=true∧Zq.pre ((Zb.fn (v42,())).1,())))∧(((!(((Zb.fn (v42,())).2).1))=true→((!(((Zb.fn (v42,())).2).1))=true∧((!(((Zb.fn (v42,())).2).1))=true∧True)))∧((((Zb.fn (v42,())).2).1=false→(!(((Zb.fn (v42,())).2).1))=true)∧cond (((Zb.fn (v42,())).2).1||(Option.getD (y12.2.2 v43) false)) (Zm IntKind.i64 (y12.1+(1:Int))∧R12 ((y12.1+(1:Int)),y12.2)) (Zq.pre ((Zb.fn (v42,())).1,())∧((((List.length y12.2.1+List.length v45)*24)≤140737488355328∧(List.length y12.2.1+List.length v45)≤9223372036854775807)∧cond (decide ((400:Int) < (((List.length (y12.2.1++v45)):Nat):Int))) (((!((0:Int) != (0:Int)))=true→((!((0:Int) != (0:Int)))=true∧True))∧((((0:Int) != (0:Int))=false→(!((0:Int) != (0:Int)))=true)∧Q (([]:List (List (Zc))),(3:Int)))) (Zm IntKind.i64 (y12.1+(1:Int))∧R12 ((y12.1+(1:Int)),((y12.2.1++v45),ZdP y12.2.2 v43 true)))))))))))) (Zm IntKind.i64 (y10.1+(1:Int))∧R10 ((y10.1+(1:Int)),y12.2))) ((0:Int),y10.2))))))) (((!((0:Int) != (0:Int)))=true→((!((0:Int) != (0:Int)))=true∧True))∧((((0:Int) != (0:Int))=false→(!((0:Int) != (0:Int)))=true)∧Q (y10.2.1,(0:Int))))) ((0:Int),(([]:List (List (Zc))),fun (a10:ByteArray)=>(none:Option Bool)))))))))) ((0:Int),(([(ZM.fn (y6.2,())).1]),y4.2.2.2.2.1))))) ((0:Int),([]:List Int))) (Lp (σ:=Int) (fun y6 R6=>let v47:=List.getD y4.2.2.2.2.2.2.1 (Int.toNat y6) (Za,((0:Int),(([]:List Int),(0:Int))));cond (decide (y6 < ((v10:Nat):Int))) (((0:Int)≤y6∧y6 < ((v10:Nat):Int))∧Lp (σ:=Int) (fun y8 R8=>cond (decide (y8 < ((v11:Nat):Int))) (((0:Int)≤y8∧y8 < ((v11:Nat):Int))∧(((v47.2.1 != (1:Int))=true→((v47.2.1 != (1:Int))=true∧True))∧(((v47.2.1 != (1:Int))=true→((v47.2.1 != (1:Int))=true∧True))∧(((v47.2.1 != (1:Int))=true→(v47.2.1 != (1:Int))=true)∧cond ((v47.2.1 != (1:Int))&&((List.getD y4.2.2.2.2.2.2.2 (Int.toNat y8) (Za,((0:Int),(([]:List Int),(0:Int))))).2.1 != (-(1:Int)))) (Lp (σ:=Int×List Int) (fun y10 R10=>let v49:=List.getD y4.2.2.2.2.1 (Int.toNat y10.1) (Za,((0:Int),(([]:List Int),(0:Int))));let v50:=Max.max v49.2.1 (-v49.2.1);cond (decide (y10.1 < ((v5:Nat):Int))) (((0:Int)≤y10.1∧y10.1 < ((v5:Nat):Int))∧(Int.toNat y10.1 < v5∧(Zm IntKind.i64 (-v49.2.1)∧((((List.length y10.2+List.length [v50])*8)≤140737488355328∧(List.length y10.2+List.length [v50])≤9223372036854775807)∧(Zm IntKind.i64 (y10.1+(1:Int))∧R10 ((y10.1+(1:Int)),(y10.2++[v50]))))))) (ZM.pre (y10.2,())∧cond ((ZM.fn (y10.2,())).2 != (0:Int)) (((!((3:Int) != (0:Int)))=true→((!((3:Int) != (0:Int)))=true∧True))∧((((3:Int) != (0:Int))=false→(!((3:Int) != (0:Int)))=true)∧Q (([]:List (List (Zc))),(3:Int)))) (Lp (σ:=Int×(List Int)×List ((Zc)×Int×(List Int)×Int)) (fun y12 R12=>let v52:=List.getD y12.2.2 (Int.toNat y12.1) (Za,((0:Int),(([]:List Int),(0:Int))));let v53:=Max.max v52.2.1 (-v52.2.1);let v54:=Int.tdiv ((ZM.fn (y10.2,())).1) v53;let v55:=List.length ([(v52.1.2.1*v54)]);let v57:=List.set y12.2.2 (Int.toNat y12.1) ((v52.1.1,((v52.1.2.1*v54),(([]:List Int),(0:Int)))),((v52.2.1*v54),(ZO.fn (v54,(v52.2.2,((0:Int),(v52.2.2,())))))));let v58:=ZM.fn (y12.2.1,());cond (decide (y12.1 < ((v5:Nat):Int))) (((0:Int)≤y12.1∧y12.1 < ((List.length y12.2.2:Nat):Int))∧(Int.toNat y12.1 < List.length y12.2.2∧(Zm IntKind.i64 (-v52.2.1)∧((v53≠(0:Int)∧Zm IntKind.i64 v54)∧(Zm IntKind.i64 (v52.1.2.1*v54)∧(Zm IntKind.i64 (v52.2.1*v54)∧(ZO.pre (v54,(v52.2.2,((0:Int),(v52.2.2,()))))∧(((0:Int)≤y12.1∧y12.1 < ((List.length y12.2.2:Nat):Int))∧(Int.toNat y12.1 < List.length y12.2.2∧cond (v52.1.1 == (2:Int)) (Zm IntKind.i64 (v52.1.2.1*v54)∧((((List.length y12.2.1+v55)*8)≤140737488355328∧(List.length y12.2.1+v55)≤9223372036854775807)∧(Zm IntKind.i64 (y12.1+(1:Int))∧R12 ((y12.1+(1:Int)),((y12.2.1++[(v52.1.2.1*v54)]),v57))))) (Zm IntKind.i64 (y12.1+(1:Int))∧R12 ((y12.1+(1:Int)),(y12.2.1,v57)))))))))))) (ZM.pre (y12.2.1,())∧cond (v58.2 != (0:Int)) (((!((3:Int) != (0:Int)))=true→((!((3:Int) != (0:Int)))=true∧True))∧((((3:Int) != (0:Int))=false→(!((3:Int) != (0:Int)))=true)∧Q (([]:List (List (Zc))),(3:Int)))) (((!(((v10:Nat):Int) == (0:Int)))=true→((!(((v10:Nat):Int) == (0:Int)))=true∧True))∧(((!(((v10:Nat):Int) == (0:Int)))=true→((!(((v10:Nat):Int) == (0:Int)))=true∧True))∧(((!(((v10:Nat):Int) == (0:Int)))=true→((!(((v10:Nat):Int) == (0:Int)))=true∧True))∧(((((v10:Nat):Int) == (0:Int))=false→(!(((v10:Nat):Int) == (0:Int)))=true)∧cond ((((v10:Nat):Int) == (0:Int))||(((v11:Nat):Int) == (0:Int))) (Lp (σ:=Int×(List (List (Zc)))×(ByteArray→Option Bool)) (fun y14 R14=>let v59:=Zp.fn ((y4.2.1,(y4.2.2.2.1,(y12.2.2,(y4.2.2.1,(y4.2.2.2.2.2.2.1,(y4.2.2.2.2.2.2.2,y4.2.2.2.2.2.1)))))),((ZM.fn (y10.2,())).1,((v27,y14.1),(false,()))));let v60:=Zq.fn ((Zb.fn (v59,())).1,());let v62:=[(Zb.fn (v59,())).1];cond (decide (y14.1 < v58.1)) (((0:Int)≤y4.2.1∧(y4.2.1≤y4.2.1∧((y4.2.1*((8:Nat):Int))≤(140737488355328:Int)∧y4.2.1≤(9223372036854775807:Int))))∧(Zp.pre ((y4.2.1,(y4.2.2.2.1,(y12.2.2,(y4.2.2.1,(y4.2.2.2.2.2.2.1,(y4.2.2.2.2.2.2.2,y4.2.2.2.2.2.1)))))),((ZM.fn (y10.2,())).1,((v27,y14.1),(false,()))))∧(Zb.pre (v59,())∧cond (((Zb.fn (v59,())).2).2 != (0:Int)) (((!((0:Int) != (0:Int)))=true→((!((0:Int) != (0:Int)))=true∧True))∧((((0:Int) != (0:Int))=false→(!((0:Int) != (0:Int)))=true)∧cond (((0:Int) != (0:Int))||(((Zb.fn (v59,())).2).2 != (0:Int))) (Q (([]:List (List (Zc))),(3:Int))) (Q (([]:List (List (Zc))),(0:Int))))) (((!(((Zb.fn (v59,())).2).1))=true→((!(((Zb.fn (v59,())).2).1))=true∧Zq.pre ((Zb.fn (v59,())).1,())))∧(((!(((Zb.fn (v59,())).2).1))=true→((!(((Zb.fn (v59,())).2).1))=true∧((!(((Zb.fn (v59,())).2).1))=true∧True)))∧((((Zb.fn (v59,())).2).1=false→(!(((Zb.fn (v59,())).2).1))=true)∧cond (((Zb.fn (v59,())).2).1||(Option.getD (y14.2.2 v60) false)) (Zm IntKind.i64 (y14.1+(1:Int))∧R14 ((y14.1+(1:Int)),y14.2)) (Zq.pre ((Zb.fn (v59,())).1,())∧((((List.length y14.2.1+List.length v62)*24)≤140737488355328∧(List.length y14.2.1+List.length v62)≤9223372036854775807)∧cond (decide ((400:Int) < (((List.length (y14.2.1++v62)):Nat):Int))) (((!((0:Int) != (0:Int)))=true→((!((0:Int) != (0:Int)))=true∧True))∧((((0:Int) != (0:Int))=false→(!((0:Int) != (0:Int)))=true)∧Q (([]:List (List (Zc))),(3:Int)))) (Zm IntKind.i64 (y14.1+(1:Int))∧R14 ((y14.1+(1:Int)),((y14.2.1++v62),ZdP y14.2.2 v60 true))))))))))) (((!((0:Int) != (0:Int)))=true→((!((0:Int) != (0:Int)))=true∧True))∧((((0:Int) != (0:Int))=false→(!((0:Int) != (0:Int)))=true)∧Q (y14.2.1,(0:Int))))) ((0:Int),(([]:List (List (Zc))),fun (a14:ByteArray)=>(none:Option Bool)))) (Lp (σ:=Int×(List (List (Zc)))×(ByteArray→Option Bool)) (fun y14 R14=>let v64:=List.getD y12.2.2 (Int.toNat y14.1) (Za,((0:Int),(([]:List Int),(0:Int))));let v65:=ZO.fn ((-(1:Int)),(v64.2.2,((0:Int),(v64.2.2,()))));cond (decide (y14.1 < ((List.length y12.2.2:Nat):Int))) (((0:Int)≤y14.1∧y14.1 < ((List.length y12.2.2:Nat):Int))∧(((!(v64.1.1 == (2:Int)))=true→((!(v64.1.1 == (2:Int)))=true∧True))∧(((!(v64.1.1 == (2:Int)))=true→((!(v64.1.1 == (2:Int)))=true∧True))∧(((!(v64.1.1 == (2:Int)))=true→((!(v64.1.1 == (2:Int)))=true∧((!(v64.1.1 == (2:Int)))=true∧True)))∧(((v64.1.1 == (2:Int))=false→(!(v64.1.1 == (2:Int)))=true)∧cond ((v64.1.1 == (2:Int))||(decide ((0:Int) < v64.2.1) != decide (((v10:Nat):Int)≤((v11:Nat):Int)))) (Zm IntKind.i64 (y14.1+(1:Int))∧R14 ((y14.1+(1:Int)),y14.2)) (Lp (σ:=Int×(List (List (Zc)))×(ByteArray→Option Bool)) (fun y16 R16=>let v66:=Zau.fn (v64.2.2,((-y16.1),()));let v67:=Zp.fn ((y4.2.1,(y4.2.2.2.1,(y12.2.2,(y4.2.2.1,(y4.2.2.2.2.2.2.1,(y4.2.2.2.2.2.2.2,y4.2.2.2.2.2.1)))))),((ZM.fn (y10.2,())).1,(v66,(true,()))));let v68:=Zq.fn ((Zb.fn (v67,())).1,());let v70:=[(Zb.fn (v67,())).1];let v72:=Zau.fn (v65,(y16.1,()));let v73:=Zp.fn ((y4.2.1,(y4.2.2.2.1,(y12.2.2,(y4.2.2.1,(y4.2.2.2.2.2.2.1,(y4.2.2.2.2.2.2.2,y4.2.2.2.2.2.1)))))),((ZM.fn (y10.2,())).1,(v72,(true,()))));let v74:=Zq.fn ((Zb.fn (v73,())).1,());let v76:=[(Zb.fn (v73,())).1];cond (decide (y16.1 < v58.1)) (ZO.pre ((-(1:Int)),(v64.2.2,((0:Int),(v64.2.2,()))))∧(Zau.pre (v65,(y16.1,()))∧cond (!(decide (((v10:Nat):Int)≤((v11:Nat):Int)))) (Zm IntKind.i64 (-y16.1)∧(Zau.pre (v64.2.2,((-y16.1),()))∧(Zp.pre ((y4.2.1,(y4.2.2.2.1,(y12.2.2,(y4.2.2.1,(y4.2.2.2.2.2.2.1,(y4.2.2.2.2.2.2.2,y4.2.2.2.2.2.1)))))),((ZM.fn (y10.2,())).1,(v66,(true,()))))∧(Zb.pre (v67,())∧cond (((Zb.fn (v67,())).2).2 != (0:Int)) (((!((0:Int) != (0:Int)))=true→((!((0:Int) != (0:Int)))=true∧True))∧((((0:Int) != (0:Int))=false→(!((0:Int) != (0:Int)))=true)∧cond (((0:Int) != (0:Int))||(((Zb.fn (v67,())).2).2 != (0:Int))) (Q (([]:List (List (Zc))),(3:Int))) (Q (([]:List (List (Zc))),(0:Int))))) (((!(((Zb.fn (v67,())).2).1))=true→((!(((Zb.fn (v67,())).2).1))=true∧Zq.pre ((Zb.fn (v67,())).1,())))∧(((!(((Zb.fn (v67,())).2).1))=true→((!(((Zb.fn (v67,())).2).1))=true∧((!(((Zb.fn (v67,())).2).1))=true∧True)))∧((((Zb.fn (v67,())).2).1=false→(!(((Zb.fn (v67,())).2).1))=true)∧cond (((Zb.fn (v67,())).2).1||(Option.getD (y16.2.2 v68) false)) (Zm IntKind.i64 (y16.1+(1:Int))∧R16 ((y16.1+(1:Int)),y16.2)) (Zq.pre ((Zb.fn (v67,())).1,())∧((((List.length y16.2.1+List.length v70)*24)≤140737488355328∧(List.length y16.2.1+List.length v70)≤9223372036854775807)∧cond (decide ((400:Int) < (((List.length (y16.2.1++v70)):Nat):Int))) (((!((0:Int) != (0:Int)))=true→((!((0:Int) != (0:Int)))=true∧True))∧((((0:Int) != (0:Int))=false→(!((0:Int) != (0:Int)))=true)∧Q (([]:List (List (Zc))),(3:Int)))) (Zm IntKind.i64 (y16.1+(1:Int))∧R16 ((y16.1+(1:Int)),((y16.2.1++v70),ZdP y16.2.2 v68 true)))))))))))) (Zp.pre ((y4.2.1,(y4.2.2.2.1,(y12.2.2,(y4.2.2.1,(y4.2.2.2.2.2.2.1,(y4.2.2.2.2.2.2.2,y4.2.2.2.2.2.1)))))),((ZM.fn (y10.2,())).1,(v72,(true,()))))∧(Zb.pre (v73,())∧cond (((Zb.fn (v73,())).2).2 != (0:Int)) (((!((0:Int) != (0:Int)))=true→((!((0:Int) != (0:Int)))=true∧True))∧((((0:Int) != (0:Int))=false→(!((0:Int) != (0:Int)))=true)∧cond (((0:Int) != (0:Int))||(((Zb.fn (v73,())).2).2 != (0:Int))) (Q (([]:List (List (Zc))),(3:Int))) (Q (([]:List (List (Zc))),(0:Int))))) (((!(((Zb.fn (v73,())).2).1))=true→((!(((Zb.fn (v73,())).2).1))=true∧Zq.pre ((Zb.fn (v73,())).1,())))∧(((!(((Zb.fn (v73,())).2).1))=true→((!(((Zb.fn (v73,())).2).1))=true∧((!(((Zb.fn (v73,())).2).1))=true∧True)))∧((((Zb.fn (v73,())).2).1=false→(!(((Zb.fn (v73,())).2).1))=true)∧cond (((Zb.fn (v73,())).2).1||(Option.getD (y16.2.2 v74) false)) (Zm IntKind.i64 (y16.1+(1:Int))∧R16 ((y16.1+(1:Int)),y16.2)) (Zq.pre ((Zb.fn (v73,())).1,())∧((((List.length y16.2.1+List.length v76)*24)≤140737488355328∧(List.length y16.2.1+List.length v76)≤9223372036854775807)∧cond (decide ((400:Int) < (((List.length (y16.2.1++v76)):Nat):Int))) (((!((0:Int) != (0:Int)))=true→((!((0:Int) != (0:Int)))=true∧True))∧((((0:Int) != (0:Int))=false→(!((0:Int) != (0:Int)))=true)∧Q (([]:List (List (Zc))),(3:Int)))) (Zm IntKind.i64 (y16.1+(1:Int))∧R16 ((y16.1+(1:Int)),((y16.2.1++v76),ZdP y16.2.2 v74 true)))))))))))) (Zm IntKind.i64 (y14.1+(1:Int))∧R14 ((y14.1+(1:Int)),y16.2))) ((0:Int),y14.2))))))) (((!((0:Int) != (0:Int)))=true→((!((0:Int) != (0:Int)))=true∧True))∧((((0:Int) != (0:Int))=false→(!((0:Int) != (0:Int)))=true)∧Q (y14.2.1,(0:Int))))) ((0:Int),(([]:List (List (Zc))),fun (a14:ByteArray)=>(none:Option Bool)))))))))) ((0:Int),(([(ZM.fn (y10.2,())).1]),y4.2.2.2.2.1))))) ((0:Int),([]:List Int))) (Zm IntKind.i64 (y8+(1:Int))∧R8 (y8+(1:Int))))))) (Zm IntKind.i64 (y6+(1:Int))∧R6 (y6+(1:Int)))) (0:Int)) (ZA.pre ((y4.2.1,(y4.2.2.2.1,(y4.2.2.2.2.1,(y4.2.2.1,(y4.2.2.2.2.2.2.1,(y4.2.2.2.2.2.2.2,y4.2.2.2.2.2.1)))))),())∧Lp (σ:=Int×(List (List (Zc)))×(ByteArray→Option Bool)) (fun y8 R8=>let v79:=List.getD v78 (Int.toNat y8.1) ([]:List (Zc));let v80:=Zq.fn ((Zb.fn (v79,())).1,());let v82:=[(Zb.fn (v79,())).1];cond (decide (y8.1 < ((List.length v78:Nat):Int))) (((0:Int)≤y8.1∧y8.1 < ((List.length v78:Nat):Int))∧(Zb.pre (v79,())∧cond (((Zb.fn (v79,())).2).2 != (0:Int)) (((!((0:Int) != (0:Int)))=true→((!((0:Int) != (0:Int)))=true∧True))∧((((0:Int) != (0:Int))=false→(!((0:Int) != (0:Int)))=true)∧cond (((0:Int) != (0:Int))||(((Zb.fn (v79,())).2).2 != (0:Int))) (Q (([]:List (List (Zc))),(3:Int))) (Q (([]:List (List (Zc))),(0:Int))))) (((!(((Zb.fn (v79,())).2).1))=true→((!(((Zb.fn (v79,())).2).1))=true∧Zq.pre ((Zb.fn (v79,())).1,())))∧(((!(((Zb.fn (v79,())).2).1))=true→((!(((Zb.fn (v79,())).2).1))=true∧((!(((Zb.fn (v79,())).2).1))=true∧True)))∧((((Zb.fn (v79,())).2).1=false→(!(((Zb.fn (v79,())).2).1))=true)∧cond (((Zb.fn (v79,())).2).1||(Option.getD (y8.2.2 v80) false)) (Zm IntKind.i64 (y8.1+(1:Int))∧R8 ((y8.1+(1:Int)),y8.2)) (Zq.pre ((Zb.fn (v79,())).1,())∧((((List.length y8.2.1+List.length v82)*24)≤140737488355328∧(List.length y8.2.1+List.length v82)≤9223372036854775807)∧cond (decide ((400:Int) < (((List.length (y8.2.1++v82)):Nat):Int))) (((!((0:Int) != (0:Int)))=true→((!((0:Int) != (0:Int)))=true∧True))∧((((0:Int) != (0:Int))=false→(!((0:Int) != (0:Int)))=true)∧Q (([]:List (List (Zc))),(3:Int)))) (Zm IntKind.i64 (y8.1+(1:Int))∧R8 ((y8.1+(1:Int)),((y8.2.1++v82),ZdP y8.2.2 v80 true)))))))))) (((!((0:Int) != (0:Int)))=true→((!((0:Int) != (0:Int)))=true∧True))∧((((0:Int) != (0:Int))=false→(!((0:Int) != (0:Int)))=true)∧Q (y8.2.1,(0:Int))))) ((0:Int),(([]:List (List (Zc))),fun (a8:ByteArray)=>(none:Option Bool))))) (0:Int))))) ((0:Int),((x1 - (1:Int)),((-(1:Int)),(([]:List (Zc)),(([]:List ((Zc)×Int×(List Int)×Int)),(([]:List ((Zc)×Int×(List Int)×Int)),(([]:List ((Zc)×Int×(List Int)×Int)),([]:List ((Zc)×Int×(List Int)×Int))))))))))
def ZeV(n:Int)(oth:List Zc)(parts:List Part)(e:Int)(lows ups divs:List Part)(Q:(List (List Zc))×Int→Prop):Prop:=let v5:=List.length parts;let v10:=List.length lows;let v11:=List.length ups;let v27:=List.replicate (Int.toNat n) (0:Int);Lp (σ:=Int×List Int) (fun y6 R6=>let v18:=List.getD parts (Int.toNat y6.1) (Za,((0:Int),(([]:List Int),(0:Int))));let v19:=Max.max v18.2.1 (-v18.2.1);cond (decide (y6.1 < ((v5:Nat):Int))) (((0:Int)≤y6.1∧y6.1 < ((v5:Nat):Int))∧(Int.toNat y6.1 < v5∧(Zm IntKind.i64 (-v18.2.1)∧((((List.length y6.2+List.length [v19])*8)≤140737488355328∧(List.length y6.2+List.length [v19])≤9223372036854775807)∧(Zm IntKind.i64 (y6.1+(1:Int))∧R6 ((y6.1+(1:Int)),(y6.2++[v19]))))))) (ZM.pre (y6.2,())∧cond ((ZM.fn (y6.2,())).2 != (0:Int)) (((!((3:Int) != (0:Int)))=true→((!((3:Int) != (0:Int)))=true∧True))∧((((3:Int) != (0:Int))=false→(!((3:Int) != (0:Int)))=true)∧Q (([]:List (List (Zc))),(3:Int)))) (Lp (σ:=Int×(List Int)×List ((Zc)×Int×(List Int)×Int)) (fun y8 R8=>let v21:=List.getD y8.2.2 (Int.toNat y8.1) (Za,((0:Int),(([]:List Int),(0:Int))));let v22:=Max.max v21.2.1 (-v21.2.1);let v23:=Int.tdiv ((ZM.fn (y6.2,())).1) v22;let v24:=List.length ([(v21.1.2.1*v23)]);let v26:=List.set y8.2.2 (Int.toNat y8.1) ((v21.1.1,((v21.1.2.1*v23),(([]:List Int),(0:Int)))),((v21.2.1*v23),(ZO.fn (v23,(v21.2.2,((0:Int),(v21.2.2,())))))));cond (decide (y8.1 < ((v5:Nat):Int))) (((0:Int)≤y8.1∧y8.1 < ((List.length y8.2.2:Nat):Int))∧(Int.toNat y8.1 < List.length y8.2.2∧(Zm IntKind.i64 (-v21.2.1)∧((v22≠(0:Int)∧Zm IntKind.i64 v23)∧(Zm IntKind.i64 (v21.1.2.1*v23)∧(Zm IntKind.i64 (v21.2.1*v23)∧(ZO.pre (v23,(v21.2.2,((0:Int),(v21.2.2,()))))∧(((0:Int)≤y8.1∧y8.1 < ((List.length y8.2.2:Nat):Int))∧(Int.toNat y8.1 < List.length y8.2.2∧cond (v21.1.1 == (2:Int)) (Zm IntKind.i64 (v21.1.2.1*v23)∧((((List.length y8.2.1+v24)*8)≤140737488355328∧(List.length y8.2.1+v24)≤9223372036854775807)∧(Zm IntKind.i64 (y8.1+(1:Int))∧R8 ((y8.1+(1:Int)),((y8.2.1++[(v21.1.2.1*v23)]),v26))))) (Zm IntKind.i64 (y8.1+(1:Int))∧R8 ((y8.1+(1:Int)),(y8.2.1,v26)))))))))))) (ZM.pre (y8.2.1,())∧cond ((ZM.fn (y8.2.1,())).2 != (0:Int)) (((!((3:Int) != (0:Int)))=true→((!((3:Int) != (0:Int)))=true∧True))∧((((3:Int) != (0:Int))=false→(!((3:Int) != (0:Int)))=true)∧Q (([]:List (List (Zc))),(3:Int)))) (((!(((v10:Nat):Int) == (0:Int)))=true→((!(((v10:Nat):Int) == (0:Int)))=true∧True))∧(((!(((v10:Nat):Int) == (0:Int)))=true→((!(((v10:Nat):Int) == (0:Int)))=true∧True))∧(((!(((v10:Nat):Int) == (0:Int)))=true→((!(((v10:Nat):Int) == (0:Int)))=true∧True))∧(((((v10:Nat):Int) == (0:Int))=false→(!(((v10:Nat):Int) == (0:Int)))=true)∧cond ((((v10:Nat):Int) == (0:Int))||(((v11:Nat):Int) == (0:Int))) (Lp (σ:=Int×(List (List (Zc)))×(ByteArray→Option Bool)) (fun y10 R10=>let v28:=Zp.fn ((n,(oth,(y8.2.2,(e,(lows,(ups,divs)))))),((ZM.fn (y6.2,())).1,((v27,y10.1),(false,()))));let v29:=Zq.fn ((Zb.fn (v28,())).1,());let v31:=[(Zb.fn (v28,())).1];cond (decide (y10.1 < (ZM.fn (y8.2.1,())).1)) (((0:Int)≤n∧(n≤n∧((n*((8:Nat):Int))≤(140737488355328:Int)∧n≤(9223372036854775807:Int))))∧(Zp.pre ((n,(oth,(y8.2.2,(e,(lows,(ups,divs)))))),((ZM.fn (y6.2,())).1,((v27,y10.1),(false,()))))∧(Zb.pre (v28,())∧cond (((Zb.fn (v28,())).2).2 != (0:Int)) (((!((0:Int) != (0:Int)))=true→((!((0:Int) != (0:Int)))=true∧True))∧((((0:Int) != (0:Int))=false→(!((0:Int) != (0:Int)))=true)∧cond (((0:Int) != (0:Int))||(((Zb.fn (v28,())).2).2 != (0:Int))) (Q (([]:List (List (Zc))),(3:Int))) (Q (([]:List (List (Zc))),(0:Int))))) (((!(((Zb.fn (v28,())).2).1))=true→((!(((Zb.fn (v28,())).2).1))=true∧Zq.pre ((Zb.fn (v28,())).1,())))∧(((!(((Zb.fn (v28,())).2).1))=true→((!(((Zb.fn (v28,())).2).1))=true∧((!(((Zb.fn (v28,())).2).1))=true∧True)))∧((((Zb.fn (v28,())).2).1=false→(!(((Zb.fn (v28,())).2).1))=true)∧cond (((Zb.fn (v28,())).2).1||(Option.getD (y10.2.2 v29) false)) (Zm IntKind.i64 (y10.1+(1:Int))∧R10 ((y10.1+(1:Int)),y10.2)) (Zq.pre ((Zb.fn (v28,())).1,())∧((((List.length y10.2.1+List.length v31)*24)≤140737488355328∧(List.length y10.2.1+List.length v31)≤9223372036854775807)∧cond (decide ((400:Int) < (((List.length (y10.2.1++v31)):Nat):Int))) (((!((0:Int) != (0:Int)))=true→((!((0:Int) != (0:Int)))=true∧True))∧((((0:Int) != (0:Int))=false→(!((0:Int) != (0:Int)))=true)∧Q (([]:List (List (Zc))),(3:Int)))) (Zm IntKind.i64 (y10.1+(1:Int))∧R10 ((y10.1+(1:Int)),((y10.2.1++v31),ZdP y10.2.2 v29 true))))))))))) (((!((0:Int) != (0:Int)))=true→((!((0:Int) != (0:Int)))=true∧True))∧((((0:Int) != (0:Int))=false→(!((0:Int) != (0:Int)))=true)∧Q (y10.2.1,(0:Int))))) ((0:Int),(([]:List (List (Zc))),fun (a10:ByteArray)=>(none:Option Bool)))) (Lp (σ:=Int×(List (List (Zc)))×(ByteArray→Option Bool)) (fun y10 R10=>let v33:=List.getD y8.2.2 (Int.toNat y10.1) (Za,((0:Int),(([]:List Int),(0:Int))));let v34:=ZO.fn ((-(1:Int)),(v33.2.2,((0:Int),(v33.2.2,()))));cond (decide (y10.1 < ((List.length y8.2.2:Nat):Int))) (((0:Int)≤y10.1∧y10.1 < ((List.length y8.2.2:Nat):Int))∧(((!(v33.1.1 == (2:Int)))=true→((!(v33.1.1 == (2:Int)))=true∧True))∧(((!(v33.1.1 == (2:Int)))=true→((!(v33.1.1 == (2:Int)))=true∧True))∧(((!(v33.1.1 == (2:Int)))=true→((!(v33.1.1 == (2:Int)))=true∧((!(v33.1.1 == (2:Int)))=true∧True)))∧(((v33.1.1 == (2:Int))=false→(!(v33.1.1 == (2:Int)))=true)∧cond ((v33.1.1 == (2:Int))||(decide ((0:Int) < v33.2.1) != decide (((v10:Nat):Int)≤((v11:Nat):Int)))) (Zm IntKind.i64 (y10.1+(1:Int))∧R10 ((y10.1+(1:Int)),y10.2)) (Lp (σ:=Int×(List (List (Zc)))×(ByteArray→Option Bool)) (fun y12 R12=>let v35:=Zau.fn (v33.2.2,((-y12.1),()));let v36:=Zp.fn ((n,(oth,(y8.2.2,(e,(lows,(ups,divs)))))),((ZM.fn (y6.2,())).1,(v35,(true,()))));let v37:=Zq.fn ((Zb.fn (v36,())).1,());let v39:=[(Zb.fn (v36,())).1];let v41:=Zau.fn (v34,(y12.1,()));let v42:=Zp.fn ((n,(oth,(y8.2.2,(e,(lows,(ups,divs)))))),((ZM.fn (y6.2,())).1,(v41,(true,()))));let v43:=Zq.fn ((Zb.fn (v42,())).1,());let v45:=[(Zb.fn (v42,())).1];cond (decide (y12.1 < (ZM.fn (y8.2.1,())).1)) (ZO.pre ((-(1:Int)),(v33.2.2,((0:Int),(v33.2.2,()))))∧(Zau.pre (v34,(y12.1,()))∧cond (!(decide (((v10:Nat):Int)≤((v11:Nat):Int)))) (Zm IntKind.i64 (-y12.1)∧(Zau.pre (v33.2.2,((-y12.1),()))∧(Zp.pre ((n,(oth,(y8.2.2,(e,(lows,(ups,divs)))))),((ZM.fn (y6.2,())).1,(v35,(true,()))))∧(Zb.pre (v36,())∧cond (((Zb.fn (v36,())).2).2 != (0:Int)) (((!((0:Int) != (0:Int)))=true→((!((0:Int) != (0:Int)))=true∧True))∧((((0:Int) != (0:Int))=false→(!((0:Int) != (0:Int)))=true)∧cond (((0:Int) != (0:Int))||(((Zb.fn (v36,())).2).2 != (0:Int))) (Q (([]:List (List (Zc))),(3:Int))) (Q (([]:List (List (Zc))),(0:Int))))) (((!(((Zb.fn (v36,())).2).1))=true→((!(((Zb.fn (v36,())).2).1))=true∧Zq.pre ((Zb.fn (v36,())).1,())))∧(((!(((Zb.fn (v36,())).2).1))=true→((!(((Zb.fn (v36,())).2).1))=true∧((!(((Zb.fn (v36,())).2).1))=true∧True)))∧((((Zb.fn (v36,())).2).1=false→(!(((Zb.fn (v36,())).2).1))=true)∧cond (((Zb.fn (v36,())).2).1||(Option.getD (y12.2.2 v37) false)) (Zm IntKind.i64 (y12.1+(1:Int))∧R12 ((y12.1+(1:Int)),y12.2)) (Zq.pre ((Zb.fn (v36,())).1,())∧((((List.length y12.2.1+List.length v39)*24)≤140737488355328∧(List.length y12.2.1+List.length v39)≤9223372036854775807)∧cond (decide ((400:Int) < (((List.length (y12.2.1++v39)):Nat):Int))) (((!((0:Int) != (0:Int)))=true→((!((0:Int) != (0:Int)))=true∧True))∧((((0:Int) != (0:Int))=false→(!((0:Int) != (0:Int)))=true)∧Q (([]:List (List (Zc))),(3:Int)))) (Zm IntKind.i64 (y12.1+(1:Int))∧R12 ((y12.1+(1:Int)),((y12.2.1++v39),ZdP y12.2.2 v37 true)))))))))))) (Zp.pre ((n,(oth,(y8.2.2,(e,(lows,(ups,divs)))))),((ZM.fn (y6.2,())).1,(v41,(true,()))))∧(Zb.pre (v42,())∧cond (((Zb.fn (v42,())).2).2 != (0:Int)) (((!((0:Int) != (0:Int)))=true→((!((0:Int) != (0:Int)))=true∧True))∧((((0:Int) != (0:Int))=false→(!((0:Int) != (0:Int)))=true)∧cond (((0:Int) != (0:Int))||(((Zb.fn (v42,())).2).2 != (0:Int))) (Q (([]:List (List (Zc))),(3:Int))) (Q (([]:List (List (Zc))),(0:Int))))) (((!(((Zb.fn (v42,())).2).1))=true→((!(((Zb.fn (v42,())).2).1))=true∧Zq.pre ((Zb.fn (v42,())).1,())))∧(((!(((Zb.fn (v42,())).2).1))=true→((!(((Zb.fn (v42,())).2).1))=true∧((!(((Zb.fn (v42,())).2).1))=true∧True)))∧((((Zb.fn (v42,())).2).1=false→(!(((Zb.fn (v42,())).2).1))=true)∧cond (((Zb.fn (v42,())).2).1||(Option.getD (y12.2.2 v43) false)) (Zm IntKind.i64 (y12.1+(1:Int))∧R12 ((y12.1+(1:Int)),y12.2)) (Zq.pre ((Zb.fn (v42,())).1,())∧((((List.length y12.2.1+List.length v45)*24)≤140737488355328∧(List.length y12.2.1+List.length v45)≤9223372036854775807)∧cond (decide ((400:Int) < (((List.length (y12.2.1++v45)):Nat):Int))) (((!((0:Int) != (0:Int)))=true→((!((0:Int) != (0:Int)))=true∧True))∧((((0:Int) != (0:Int))=false→(!((0:Int) != (0:Int)))=true)∧Q (([]:List (List (Zc))),(3:Int)))) (Zm IntKind.i64 (y12.1+(1:Int))∧R12 ((y12.1+(1:Int)),((y12.2.1++v45),ZdP y12.2.2 v43 true)))))))))))) (Zm IntKind.i64 (y10.1+(1:Int))∧R10 ((y10.1+(1:Int)),y12.2))) ((0:Int),y10.2))))))) (((!((0:Int) != (0:Int)))=true→((!((0:Int) != (0:Int)))=true∧True))∧((((0:Int) != (0:Int))=false→(!((0:Int) != (0:Int)))=true)∧Q (y10.2.1,(0:Int))))) ((0:Int),(([]:List (List (Zc))),fun (a10:ByteArray)=>(none:Option Bool)))))))))) ((0:Int),(([(ZM.fn (y6.2,())).1]),parts))))) ((0:Int),([]:List Int))
section
theorem ZiN{β:Type}{d:β}{n j:Nat}{f:Nat→β}(h:j < n):((List.range n).map f).getD j d=f j:=by
 rw[List.getD_eq_getElem?_getD,List.getElem?_map,List.getElem?_range h];rfl
theorem ZtM{β:Type}{n j:Nat}{f g:Nat→β}(h:∀ i,i≠j→f i=g i):((List.range n).map f).set j (g j)=(List.range n).map g:=by
 apply List.ext_getElem (by simp)
 intro i h1 h2
 simp only[List.getElem_set,List.getElem_map,List.getElem_range]
 split
 ·rename_i e;rw[e]
 ·rename_i e;exact h i (fun e'=>e e'.symm)
theorem ZmP{α β:Type}(d:α)(l:List α)(f:α→β):(List.range l.length).map (fun i=>f (l.getD i d))=l.map f:=by
 apply List.ext_getElem (by simp)
 intro i h1 h2
 simp only[List.getElem_map,List.getElem_range]
 rw[ZN (by simpa using h2)]
theorem Zht{α τ:Type}(f:α→Bool)(g:τ→α→Option τ):∀ (l:List α) (a:τ),l.foldlM (fun t x=>if f x=true then g t x else some t) a=(l.filter f).foldlM g a
 | [],a=>rfl
 | x::l,a=>by
   rw[List.foldlM_cons]
   by_cases h:f x=true
   ·rw[if_pos h,List.filter_cons_of_pos h,List.foldlM_cons]
    cases g a x with
    | none=>rfl
    | some t=>exact Zht f g l t
   ·rw[if_neg h,List.filter_cons_of_neg h]
    exact Zht f g l a
theorem ZfQ{α β τ:Type}(f:α→List β)(g:τ→β→Option τ):∀ (l:List α) (a:τ),(l.flatMap f).foldlM g a=l.foldlM (fun t x=>(f x).foldlM g t) a
 | [],a=>rfl
 | x::l,a=>by
   rw[List.flatMap_cons,List.foldlM_append,List.foldlM_cons]
   cases (f x).foldlM g a with
   | none=>rfl
   | some t=>exact ZfQ f g l t
def Zh0(v:Nat)(l:Int)(c:Zc):Part:=((c.1,c.2.1*Zca v l c,[],0),Ze v c*Zca v l c,ZcF (Zca v l c) (ZaN v c) 0 (ZaN v c))
theorem Zgw(v:Nat)(l:Int)(c:Zc):(Zh0 v l c).2.2=ZjU v l c:=by unfold Zh0;simp only[ZdF];rfl
theorem ZvT{a l:Int}(h0:a≠0)(hl:l.tdiv (Zbh a)*Zbh a=l)(h1:1≤l):(a*l.tdiv (Zbh a)).tdiv l=ZnA a:=by
 have e:a*l.tdiv (Zbh a)=ZnA a*l:=by
  by_cases h:a < 0
  ·have ha:Zbh a=-a:=by unfold Zbh;omega
   rw[ha] at hl ⊢
   unfold ZnA
   rw[if_pos h,← Int.neg_inj,show -(-1*l)=l by omega,← Int.neg_mul,Int.mul_comm];exact hl
  ·have ha:Zbh a=a:=by unfold Zbh;omega
   rw[ha] at hl ⊢
   unfold ZnA
   rw[if_neg h,Int.one_mul,Int.mul_comm];exact hl
 rw[e,Int.mul_tdiv_cancel _ (by omega)]
theorem Zjh{a f:Int}(hf:1≤f):0 < a*f↔0 < a:=by
 constructor
 ·intro h
  apply Classical.byContradiction
  intro hn
  have:=Int.mul_nonpos_of_nonpos_of_nonneg (show a≤0 by omega) (show 0≤f by omega)
  omega
 ·exact fun h=>Int.mul_pos h (by omega)
section
variable {p:List Zc} {N V:Nat}
theorem Zho(hN:pieceN p (N:Int))(hV:V < N){c:Zc}(hc:c∈p):Zqk (N - 1) (ZaK V c):=by
 have hcn:=hN.c hc
 have hr:=ZcL hcn (v:=V) (by omega)
 have hn12:=hN.2.2.2
 exact⟨ZiM hcn.1,ZcP hcn.1 V,hr.small (by omega) (by omega),hr.1⟩
theorem ZuA(hN:pieceN p (N:Int))(hV:V < N)(hl0:(ZbJ V p).2=0){c:Zc}(hc:c∈Zu V p):Zqk (N - 1) (Zh0 V (ZbJ V p).1 c):=by
 have hcp:=ZaT.1 hc
 have hcn:=hN.c hcp.1
 obtain⟨f0,f1,f2,f3⟩:=Ze3 hl0 hc
 obtain⟨_,l1,l2⟩:=Zgh hl0
 have hs:=ZjE hcn (v:=V) (by omega) ⟨f1,f2⟩
 have hmed:=Zl8 hcn (v:=V) (by omega) hN.2.2.2 ⟨f1,f2⟩ hcp.2
 have hn12:=hN.2.2.2
 have habs:Zbh (Ze V c*Zca V (ZbJ V p).1 c)=(ZbJ V p).1:=by
  refine Eq.trans ?_ f0
  by_cases h:Ze V c < 0
  ·have h1:=Int.mul_neg_of_neg_of_pos h (show 0 < Zca V (ZbJ V p).1 c by omega)
   have e1:Zbh (Ze V c*Zca V (ZbJ V p).1 c)=-(Ze V c*Zca V (ZbJ V p).1 c):=by unfold Zbh;omega
   have e2:Zbh (Ze V c)=-Ze V c:=by unfold Zbh;omega
   rw[e1,e2,Int.mul_neg,Int.mul_comm]
  ·have h1:=Int.mul_nonneg (show 0≤Ze V c by omega) (show 0≤Zca V (ZbJ V p).1 c by omega)
   have e1:Zbh (Ze V c*Zca V (ZbJ V p).1 c)=(Ze V c*Zca V (ZbJ V p).1 c):=by unfold Zbh;omega
   have e2:Zbh (Ze V c)=Ze V c:=by unfold Zbh;omega
   rw[e1,e2,Int.mul_comm]
 refine⟨hmed.1,?_,?_,?_⟩
 ·show -1048576≤Ze V c*Zca V (ZbJ V p).1 c∧Ze V c*Zca V (ZbJ V p).1 c≤1048576
  unfold Zbh at habs;omega
 ·rw[Zgw];exact hs.small (by omega) (by omega)
 ·rw[Zgw,hs.1];rfl
theorem Zwe (hN : pieceN p (N : Int)) (hl0 : (ZbJ V p).2 = 0) (n e : Int) (lows ups divs : List Part) (w : Lin) (all : Bool) :
 Zp.fn ((n,Zb1 V p,(Zu V p).map (Zh0 V (ZbJ V p).1),e,lows,ups,divs),(ZbJ V p).1,w,all,())=Zfw V p (ZbJ V p).1 w all:=by
 show Zb1 V p++(((Zu V p).map (Zh0 V (ZbJ V p).1)).filter fun q=>all||decide (q.1.1=2)).map (fun q=>(q.1.1,q.1.2.1,ZcF 1 q.2.2 (q.2.1.tdiv (ZbJ V p).1) w))++[(2,(ZbJ V p).1,w)]=_
 unfold Zfw
 congr 2
 rw[List.filter_map,List.map_map]
 apply List.map_congr_left
 intro c hc
 have hcp:=(List.mem_filter.1 hc).1
 obtain⟨f0,_,_,_⟩:=Ze3 hl0 hcp
 obtain⟨_,l1,_⟩:=Zgh hl0
 show ((Zh0 V (ZbJ V p).1 c).1.1,(Zh0 V (ZbJ V p).1 c).1.2.1,ZcF 1 (Zh0 V (ZbJ V p).1 c).2.2 ((Zh0 V (ZbJ V p).1 c).2.1.tdiv (ZbJ V p).1) w)=ZvZ V (ZbJ V p).1 w c
 rw[Zgw]
 have:(Zh0 V (ZbJ V p).1 c).2.1.tdiv (ZbJ V p).1=ZnA (Ze V c):=ZvT (ZaT.1 hcp).2 f0 l1
 rw[this]
 rfl
theorem Zwi (hN : pieceN p (N : Int)) (hV : V < N) (hl0 : (ZbJ V p).2 = 0) (n e : Int) (divs : List Part) {w : Lin} (hw : Zdf w ∧ w.1.length = N - 1) (all : Bool) :
 Zp.pre ((n,Zb1 V p,(Zu V p).map (Zh0 V (ZbJ V p).1),e,(Zb8 V p).map (ZaK V),(upP V p).map (ZaK V),divs),(ZbJ V p).1,w,all,()):=by
 have h400:=hN.1
 have hle:∀ f:Zc→Bool,(p.filter f).length≤400:=fun f=>Nat.le_trans (List.length_filter_le _ _) h400
 obtain⟨_,l1,_⟩:=Zgh hl0
 refine⟨⟨N - 1,⟨Nat.le_trans ZcM h400,⟨by show ((Zu V p).map _).length≤400;rw[List.length_map];exact hle _,fun q hq=>?_⟩,⟨by show ((Zb8 V p).map _).length≤400;rw[List.length_map];exact hle _,fun q hq=>?_⟩,⟨by show ((upP V p).map _).length≤400;rw[List.length_map];exact hle _,fun q hq=>?_⟩⟩,hw.2⟩,by show (ZbJ V p).1≠0;omega,hw.1⟩
 ·obtain⟨c,hc,rfl⟩:=List.mem_map.1 hq
  exact ZuA hN hV hl0 hc
 ·obtain⟨c,hc,rfl⟩:=List.mem_map.1 hq
  exact Zho hN hV (List.mem_filter.1 hc).1
 ·obtain⟨c,hc,rfl⟩:=List.mem_map.1 hq
  exact Zho hN hV (List.mem_filter.1 hc).1
end
theorem Zr4{p:List Zc}{V n:Nat}{l:Int}{d:Nat}(h:¬ (Zb8 V p=[]∨upP V p=[])):ZdX (Zch V p n l d)=(Zu V p).foldlM (fun out c=>if (decide (c.1≠2∧decide (0 < Ze V c)=Zg2 V p))=true then ((List.range d).map fun (j:Nat)=>Zfw V p l (Zd0 V l c (Zg2 V p) j) true).foldlM Z6 out else some out) []:=by
 have e:Zch V p n l d=(Znh V p).flatMap fun c=>(List.range d).map fun (j:Nat)=>Zfw V p l (Zd0 V l c (Zg2 V p) j) true:=by unfold Zch;rw[if_neg h]
 rw[e]
 show ((Znh V p).flatMap fun c=>(List.range d).map fun (j:Nat)=>Zfw V p l (Zd0 V l c (Zg2 V p) j) true).foldlM Z6 []=_
 rw[ZfQ,Zht]
 rfl
theorem ZeV.spec {p : List Zc} {N V : Nat} (hN : pieceN p (N : Int)) (hV : V < N) (e : Int) (divs : List Part) {Q : List (List Zc) × Int → Prop}
 (hQ:∀ r,r=(if (ZbJ V p).2≠0 then ([],3) else if (Zfs V p (ZbJ V p).1).2≠0 then ([],3) else ZeH (Zch V p (N - 1) (ZbJ V p).1 (Zfs V p (ZbJ V p).1).1.toNat))→Q r) :
 ZeV ((N:Int) - 1) (Zb1 V p) ((Zu V p).map (ZaK V)) e ((Zb8 V p).map (ZaK V)) ((upP V p).map (ZaK V)) divs Q:=by
 have h400:=hN.1
 have hn12:=hN.2.2.2
 have hlc:∀ l,ZM.fn (l,())=ZiH l:=fun _=>rfl
 have hsu:∀ a l b m,ZO.fn (a,l,b,m,())=ZcF a l b m:=fun _ _ _ _=>rfl
 have hpl:∀ l k,Zau.fn (l,k,())=(l.1,l.2+k):=fun _ _=>rfl
 unfold ZeV
 have hpartlen:(Zu V p).length≤400:=Nat.le_trans (List.length_filter_le _ _) h400
 simp only[List.length_map,hlc,hsu,hpl]
 have hNt:((N:Int) - 1).toNat=N - 1:=by omega
 simp only[hNt]
 refine Lp.flt ((Zu V p).map (ZaK V)) Zcd [] (fun _=>true) (fun jq=>Zbh jq.2.2.1) (by rw[List.length_map];omega) (fun i t R hi hi' hf htl h1 h2=>?_) (fun R _=>?_)
 ·rw[List.length_map] at hi hi'
  have hm:=Zi (d:=Za) hi
  have hg:((Zu V p).map (ZaK V)).getD i Zcd=ZaK V ((Zu V p).getD i Za):=Zfj hi
  rw[hg] at h1
  simp only[decide_eq_true hi',Int.toNat_natCast,cond_true,hg]
  have hb:=Zho hN hV (ZaT.1 hm).1
  obtain⟨q,hq⟩:∃ q,ZaK V ((Zu V p).getD i Za)=q:=⟨_,rfl⟩
  simp only[hq,List.length_nil,Nat.zero_add] at hb h1 htl ⊢
  obtain⟨_,hqa,_,_⟩:=hb
  exact⟨⟨by omega,hi'⟩,hi,⟨by omega,by omega⟩,⟨by simp only[List.length_singleton];omega,by simp only[List.length_singleton];omega⟩,hf,h1 trivial⟩
 have hall:((Zbx Zcd ((Zu V p).map (ZaK V))).filter fun _=>true).map (fun jq=>Zbh jq.2.2.1)=(Zu V p).map fun c=>Zbh (Ze V c):=by
  rw[Zef Zcd ((Zu V p).map (ZaK V)) (fun _=>true) (fun q=>Zbh q.2.1),List.filter_eq_self.2 (fun _ _=>rfl),List.map_map]
  rfl
 simp only[Int.lt_irrefl,decide_false,cond_false,List.nil_append,List.length_map,hall]
 have hL:ZiH ((Zu V p).map fun c=>Zbh (Ze V c))=ZbJ V p:=rfl
 simp only[hL]
 refine⟨fun x hx=>?_,?_⟩
 ·obtain⟨c,hc,rfl⟩:=List.mem_map.1 hx
  have:=ZjQ (ZcP (hN.c (ZaT.1 hc).1).1 V)
  omega
 have h30:((3:Int) != (0:Int))=true:=rfl
 have h00:((0:Int) != (0:Int))=false:=rfl
 by_cases hl0:(ZbJ V p).2=0
 rotate_left
 ·rw[show ((ZbJ V p).2 != 0)=true by simpa using hl0,cond_true]
  refine⟨fun h=>⟨h,trivial⟩,fun h=>by rw[h];rfl,hQ _ ?_⟩
  rw[if_pos hl0]
 rw[show ((ZbJ V p).2 != 0)=false by simpa using hl0,cond_false]
 rw[if_neg (by simpa using hl0)] at hQ
 obtain⟨_,hl1,hl512⟩:=Zgh hl0
 have hfac:∀ c∈Zu V p,1≤Zca V (ZbJ V p).1 c∧Zca V (ZbJ V p).1 c≤512:=fun c hc=>⟨(Ze3 hl0 hc).2.1,(Ze3 hl0 hc).2.2.1⟩
 have hsclB:∀ c∈Zu V p,Zqk (N - 1) (Zh0 V (ZbJ V p).1 c):=fun c hc=>ZuA hN hV hl0 hc
 have hats:=fun (w:Lin) (all:Bool)=>Zwe hN hl0 ((N:Int) - 1) e ((Zb8 V p).map (ZaK V)) ((upP V p).map (ZaK V)) divs w all
 have hatp:=fun (w:Lin) (hw:Zdf w∧w.1.length=N - 1) (all:Bool)=>Zwi hN hV hl0 ((N:Int) - 1) e divs hw all
 have hgood:=Zf2 hN (v:=V) (by omega) hl0 (d:=(Zfs V p (ZbJ V p).1).1.toNat)
 have hsubg:∀ w,Zeo 536871424 (N - 1) w→∀ all,Zj5 (N - 1) (Zfw V p (ZbJ V p).1 w all):=fun w hw all=>Zji hN (v:=V) (by omega) hl0 (by simpa using hw) all
 have hnear:∀ c∈Zu V p,∀ (low:Bool) (j:Nat),j≤512→Zeo 536871424 (N - 1) (Zd0 V (ZbJ V p).1 c low j):=fun c hc low j hj=>by
  have:=ZlH (low:=low) (hN.c (ZaT.1 hc).1) (v:=V) (by omega) (hfac c hc) hj
  simpa using this
 have hsclbd:∀ c∈Zu V p,Zeo 536870912 (N - 1) (ZjU V (ZbJ V p).1 c):=fun c hc=>by
  have:=ZjE (hN.c (ZaT.1 hc).1) (v:=V) (by omega) (hfac c hc)
  simpa using this
 obtain⟨l,hl⟩:∃ l,(ZbJ V p).1=l:=⟨_,rfl⟩
 simp only[hl] at hl1 hl512 hfac hQ hsclB hats hatp hgood hsubg hnear hsclbd ⊢
 have hstart:((Zu V p).map (ZaK V))=(List.range (Zu V p).length).map fun j=>if j < 0 then Zh0 V l ((Zu V p).getD j Za) else ZaK V ((Zu V p).getD j Za):=by
  rw[← ZmP Za (Zu V p) (ZaK V)]
  apply List.map_congr_left
  intro j _
  rw[if_neg (by omega)]
 rw[hstart]
 refine Lp.iter (Zu V p).length (fun i z=>z=((i:Int),l::(((Zu V p).take i).filter fun c=>decide (c.1=2)).map (fun c=>c.2.1*Zca V l c),(List.range (Zu V p).length).map fun j=>if j < i then Zh0 V l ((Zu V p).getD j Za) else ZaK V ((Zu V p).getD j Za))) (by simp) ?_
 rintro i z hle rfl R hR
 by_cases hi:i < (Zu V p).length
 ·have hi':(i:Int) < ((Zu V p).length:Int):=by omega
  have hm:=Zi (d:=Za) hi
  have hR':=hR hi _ rfl
  rw[ZbP (d:=Za) hi,List.filter_append,List.map_append] at hR'
  simp only[decide_eq_true hi',Int.toNat_natCast,cond_true,List.length_map,List.length_range,ZiN hi,if_neg (Nat.lt_irrefl i)]
  have hset:=ZtM (n:=(Zu V p).length) (j:=i) (f:=fun j=>if j < i then Zh0 V l ((Zu V p).getD j Za) else ZaK V ((Zu V p).getD j Za)) (g:=fun j=>if j < i+1 then Zh0 V l ((Zu V p).getD j Za) else ZaK V ((Zu V p).getD j Za)) (fun j hj=>by
   by_cases h:j < i
   ·rw[if_pos h,if_pos (by omega)]
   ·rw[if_neg h,if_neg (by omega)])
  simp only[if_pos (Nat.lt_succ_self i)] at hset
  obtain⟨c,hq⟩:∃ c,(Zu V p).getD i Za=c:=⟨_,rfl⟩
  simp only[hq] at hm hR' hset ⊢
  have hcp:=ZaT.1 hm
  have hcn:=hN.c hcp.1
  obtain⟨f1,f2⟩:=hfac c hm
  obtain⟨hsM,hsa,hsL,hsk⟩:=hsclB c hm
  have hsM':-1048576≤c.2.1*Zca V l c∧c.2.1*Zca V l c≤1048576:=hsM
  have hsa':-1048576≤Ze V c*Zca V l c∧Ze V c*Zca V l c≤1048576:=hsa
  have hcb:=ZcP hcn.1 V
  have hrb:=ZcL hcn (v:=V) (by omega)
  have ha1:Max.max (Ze V c) (-Ze V c)≠(0:Int):=by have:=hcp.2;omega
  have hfe:l.tdiv (Max.max (Ze V c) (-Ze V c))=Zca V l c:=rfl
  have hpc:(ZaK V c).2.1=Ze V c:=rfl
  have hpr:(ZaK V c).2.2=ZaN V c:=rfl
  have hp1:(ZaK V c).1=c:=rfl
  have hsc:((c.1,((c.2.1*Zca V l c),(([]:List Int),(0:Int)))),((Ze V c*Zca V l c),ZcF (Zca V l c) (ZaN V c) 0 (ZaN V c)))=Zh0 V l c:=rfl
  simp only[hpc,hpr,hp1,hfe,hsc,hset]
  have hdl:(((Zu V p).take i).filter fun c=>decide (c.1=2)).length≤i:=Nat.le_trans (List.length_filter_le _ _) (by rw[List.length_take];omega)
  refine⟨⟨by omega,hi'⟩,hi,⟨by omega,by omega⟩,⟨ha1,⟨by omega,by omega⟩⟩,⟨by omega,by omega⟩,⟨by omega,by omega⟩,⟨by show -1048576≤Zca V l c∧Zca V l c≤1048576;omega,hrb.small (by omega) (by omega),by show (-1048576:Int)≤0∧(0:Int)≤1048576;omega,hrb.small (by omega) (by omega),rfl⟩,⟨by omega,hi'⟩,hi,?_⟩
  by_cases h2:c.1=2
  ·rw[show (c.1 == 2)=true by simpa using h2,cond_true]
   rw[List.filter_cons_of_pos (by simpa using h2)] at hR'
   exact⟨⟨by omega,by omega⟩,⟨by simp only[List.length_cons,List.length_nil,List.length_map];omega,by simp only[List.length_cons,List.length_nil,List.length_map];omega⟩,⟨by omega,by omega⟩,hR'⟩
  ·rw[show (c.1 == 2)=false by simpa using h2,cond_false]
   rw[List.filter_cons_of_neg (by simpa using h2),List.filter_nil,List.map_nil,List.append_nil] at hR'
   exact⟨⟨by omega,by omega⟩,hR'⟩
 have:i=(Zu V p).length:=by omega
 subst this
 have hend:((List.range (Zu V p).length).map fun j=>if j < (Zu V p).length then Zh0 V l ((Zu V p).getD j Za) else ZaK V ((Zu V p).getD j Za))=(Zu V p).map (Zh0 V l):=by
  rw[← ZmP Za (Zu V p) (Zh0 V l)]
  apply List.map_congr_left
  intro j hj
  rw[if_pos (List.mem_range.1 hj)]
 simp only[Int.lt_irrefl,decide_false,cond_false,List.take_length,hend,List.length_map]
 have hdd:ZiH (l::((Zu V p).filter fun c=>decide (c.1=2)).map (fun c=>c.2.1*Zca V l c))=Zfs V p l:=rfl
 simp only[hdd]
 refine⟨fun x hx=>?_,?_⟩
 ·rcases List.mem_cons.1 hx with rfl | hx
  ·omega
  ·obtain⟨c,hc,rfl⟩:=List.mem_map.1 hx
   obtain⟨hc,_⟩:=List.mem_filter.1 hc
   have hsM:-1048576≤c.2.1*Zca V l c∧c.2.1*Zca V l c≤1048576:=(hsclB c hc).1
   omega
 by_cases hd0:(Zfs V p l).2=0
 rotate_left
 ·rw[show ((Zfs V p l).2 != 0)=true by simpa using hd0,cond_true]
  refine⟨fun h=>⟨h,trivial⟩,fun h=>by rw[h];rfl,hQ _ ?_⟩
  rw[if_pos hd0]
 rw[show ((Zfs V p l).2 != 0)=false by simpa using hd0,cond_false]
 rw[if_neg (by simpa using hd0)] at hQ
 obtain⟨hd1,hd512,_,_⟩:=Zov hd0
 obtain⟨d,hd⟩:∃ d:Nat,(Zfs V p l).1=(d:Int):=⟨(Zfs V p l).1.toNat,by omega⟩
 simp only[hd,Int.toNat_natCast] at hd1 hd512 hQ hgood ⊢
 refine⟨fun h=>⟨h,trivial⟩,fun h=>⟨h,trivial⟩,fun h=>⟨h,trivial⟩,fun h=>by rw[h];rfl,?_⟩
 have hmade:∀ L,ZeH L=match ZdX L with
  | none=>([],3)
  | some out=>(out,0):=fun _=>rfl
 have hfail:ZdX (Zch V p (N - 1) l d)=none→Q ([],3):=fun h=>hQ _ (by rw[hmade,h])
 have hdone:∀ out,ZdX (Zch V p (N - 1) l d)=some out→Q (out,0):=fun out h=>hQ _ (by rw[hmade,h])
 by_cases hAB:Zb8 V p=[]∨upP V p=[]
 ·have hc:(((Zb8 V p).length:Int) == 0||((upP V p).length:Int) == 0)=true:=by
   rcases hAB with h | h<;>simp[h]
  rw[hc,cond_true]
  have hT:Zch V p (N - 1) l d=(List.range d).map fun (j:Nat)=>Zfw V p l (List.replicate (N - 1) 0,(j:Int)) false:=by
   unfold Zch;rw[if_pos hAB]
  rw[hT] at hfail hdone
  have hlen:((List.range d).map fun (j:Nat)=>Zfw V p l (List.replicate (N - 1) 0,(j:Int)) false).length=d:=by simp
  refine Lp.tid ((List.range d).map fun (j:Nat)=>Zfw V p l (List.replicate (N - 1) 0,(j:Int)) false) [] _ ZeG.nil (by simp) (by omega) (fun i out m R hi hi' hf hk hol h1 h2 h3=>?_) (fun out m R ht hk hol=>?_)
  ·rw[hlen] at hi hi'
   have hnb:=ZlW (n:=N - 1) (j:=i) (by omega)
   rw[ZiN hi] at h1 h2 h3
   simp only[decide_eq_true hi',cond_true,hats]
   refine⟨⟨by omega,by omega,by omega,by omega⟩,hatp (List.replicate (N - 1) 0,(i:Int)) ⟨hnb.small (by omega) (by omega),hnb.1⟩ false,Zes (hsubg (List.replicate (N - 1) 0,(i:Int)) hnb false).D.1 hk hol (fun h4 hn=>?_) (fun hs=>⟨hf,h1 hs⟩) (fun hn=>?_) (fun hs=>⟨hf,h2 hs⟩)⟩
   ·simp only[h00,Zb.fn,h4,h30,Bool.or_true,cond_true]
    exact⟨fun h=>⟨h,trivial⟩,fun h=>rfl,hfail (h3 hn)⟩
   ·exact⟨fun h=>⟨h,trivial⟩,fun h=>by rw[h];rfl,hfail (h3 hn)⟩
  ·rw[hlen]
   simp only[Int.lt_irrefl,decide_false,cond_false]
   exact⟨fun h=>⟨h,trivial⟩,fun h=>by rw[h];rfl,hdone out ht⟩
 ·have hc:(((Zb8 V p).length:Int) == 0||((upP V p).length:Int) == 0)=false:=by
   simp only[not_or] at hAB
   have h1:(Zb8 V p).length≠0:=fun h=>hAB.1 (List.eq_nil_of_length_eq_zero h)
   have h2:(upP V p).length≠0:=fun h=>hAB.2 (List.eq_nil_of_length_eq_zero h)
   simp;omega
  rw[hc,cond_false]
  rw[Zr4 hAB] at hfail hdone
  have hlowS:decide (((Zb8 V p).length:Int)≤((upP V p).length:Int))=Zg2 V p:=by
   unfold Zg2
   by_cases h:(Zb8 V p).length≤(upP V p).length
   ·rw[decide_eq_true h,decide_eq_true (by omega)]
   ·rw[decide_eq_false h,decide_eq_false (by omega)]
  simp only[hlowS]
  obtain⟨F,hF⟩:∃ F:List (List Zc)→Zc→Option (List (List Zc)),F=fun out c=>if (decide (c.1≠2∧decide (0 < Ze V c)=Zg2 V p))=true then ((List.range d).map fun (j:Nat)=>Zfw V p l (Zd0 V l c (Zg2 V p) j) true).foldlM Z6 out else some out:=⟨_,rfl⟩
  rw[← hF] at hfail hdone
  refine Lp.iter (Zu V p).length (fun i (z:Int×List (List Zc)×(ByteArray→Option Bool))=>z.1=(i:Int)∧((Zu V p).take i).foldlM F []=some z.2.1∧ZeG z.2.1 z.2.2∧z.2.1.length≤400) ⟨rfl,rfl,ZeG.nil,by simp⟩ ?_
  rintro i ⟨y,out,m⟩ hle ⟨hy,ht,hk,hol⟩ R hR
  simp only at hy ht hk hol
  subst hy
  by_cases hi:i < (Zu V p).length
  ·have hi':(i:Int) < ((Zu V p).length:Int):=by omega
   have hm:=Zi (d:=Za) hi
   have hR':=hR hi
   have hsn:((Zu V p).take (i+1)).foldlM F []=F out ((Zu V p).getD i Za):=ZbW ht hi
   have hnn:F out ((Zu V p).getD i Za)=none→(Zu V p).foldlM F []=none:=fun h=>Zcx ht hi h
   have hg:((Zu V p).map (Zh0 V l)).getD i Zcd=Zh0 V l ((Zu V p).getD i Za):=Zfj hi
   simp only[decide_eq_true hi',Int.toNat_natCast,cond_true,hg]
   obtain⟨c,hq⟩:∃ c,(Zu V p).getD i Za=c:=⟨_,rfl⟩
   simp only[hq] at hm hsn hnn ⊢
   obtain⟨f1,f2⟩:=hfac c hm
   have hcp:=ZaT.1 hm
   have hFc:F out c=if (decide (c.1≠2∧decide (0 < Ze V c)=Zg2 V p))=true then ((List.range d).map fun (j:Nat)=>Zfw V p l (Zd0 V l c (Zg2 V p) j) true).foldlM Z6 out else some out:=by rw[hF]
   have hk1:(Zh0 V l c).1.1=c.1:=rfl
   have ha1:decide ((0:Int) < (Zh0 V l c).2.1)=decide (0 < Ze V c):=by
    have:(Zh0 V l c).2.1=Ze V c*Zca V l c:=rfl
    rw[this]
    by_cases h:0 < Ze V c
    ·rw[decide_eq_true h,decide_eq_true ((Zjh f1).2 h)]
    ·rw[decide_eq_false h,decide_eq_false (fun h'=>h ((Zjh f1).1 h'))]
   simp only[hk1,ha1,Zgw]
   refine⟨⟨by omega,hi'⟩,fun h=>⟨h,trivial⟩,fun h=>⟨h,trivial⟩,fun h=>⟨h,h,trivial⟩,fun h=>by rw[h];rfl,?_⟩
   have hcnd:((c.1 == 2)||(decide (0 < Ze V c) != Zg2 V p))=!decide (c.1≠2∧decide (0 < Ze V c)=Zg2 V p):=by
    by_cases h2:c.1=2
    ·simp[h2]
    ·cases decide (0 < Ze V c)<;>cases Zg2 V p<;>simp[h2]
   rw[hcnd]
   cases hsd:decide (c.1≠2∧decide (0 < Ze V c)=Zg2 V p) with
   | false =>
     rw[hsd,if_neg (by simp)] at hFc
     simp only[Bool.not_false,cond_true]
     exact⟨⟨by omega,by omega⟩,hR' _ ⟨rfl,by rw[hsn,hFc],hk,hol⟩⟩
   | true =>
     rw[hsd,if_pos rfl] at hFc
     simp only[Bool.not_true,cond_false]
     have hlen:((List.range d).map fun (j:Nat)=>Zfw V p l (Zd0 V l c (Zg2 V p) j) true).length=d:=by simp
     have hscl:=hsclbd c hm
     have hsum:ZcF (-1) (ZjU V l c) 0 (ZjU V l c)=((ZjU V l c).1.map fun n=>-1*n,-1*(ZjU V l c).2):=ZdF _ _
     simp only[hsum]
     refine Lp.tid ((List.range d).map fun (j:Nat)=>Zfw V p l (Zd0 V l c (Zg2 V p) j) true) out m hk hol (by omega) (fun j out2 m2 R2 hj hj' hf hk2 hol2 h1 h2 h3=>?_) (fun out2 m2 R2 ht2 hk2 hol2=>?_)
     ·rw[hlen] at hj hj'
      have hnb:=hnear c hm (Zg2 V p) j (by omega)
      rw[ZiN hj] at h1 h2 h3
      simp only[decide_eq_true hj',cond_true]
      have hsm:Zdf ((ZjU V l c).1.map fun n=>-1*n,-1*(ZjU V l c).2):=by
       have h:=ZlH (low:=true) (j:=0) (hN.c hcp.1) (v:=V) (l:=l) (by omega) (hfac c hm) (by omega)
       have h':=h.small (by omega) (by omega)
       unfold Zd0 at h'
       simpa using h'
      refine⟨⟨by show (-1048576:Int)≤-1∧(-1:Int)≤1048576;omega,hscl.small (by omega) (by omega),by show (-1048576:Int)≤0∧(0:Int)≤1048576;omega,hscl.small (by omega) (by omega),rfl⟩,⟨hsm,by show -1048576≤(j:Int);omega,by show (j:Int)≤1048576;omega⟩,?_⟩
      cases hlow:Zg2 V p with
      | false =>
        rw[hlow] at hnb h1 h2 h3
        have hw:((ZjU V l c).1,(ZjU V l c).2+-(j:Int))=Zd0 V l c false j:=rfl
        simp only[Bool.not_false,cond_true,hw,hats]
        refine⟨⟨by omega,by omega⟩,⟨hscl.small (by omega) (by omega),by show -1048576≤-(j:Int);omega,by show -(j:Int)≤1048576;omega⟩,hatp _ ⟨hnb.small (by omega) (by omega),hnb.1⟩ true,Zes (hsubg _ hnb true).D.1 hk2 hol2 (fun h4 hn=>?_) (fun hs=>⟨hf,h1 hs⟩) (fun hn=>?_) (fun hs=>⟨hf,h2 hs⟩)⟩
        ·simp only[h00,Zb.fn,h4,h30,Bool.or_true,cond_true]
         exact⟨fun h=>⟨h,trivial⟩,fun h=>rfl,hfail (hnn (by rw[hFc,hlow];exact h3 hn))⟩
        ·exact⟨fun h=>⟨h,trivial⟩,fun h=>by rw[h];rfl,hfail (hnn (by rw[hFc,hlow];exact h3 hn))⟩
      | true =>
        rw[hlow] at hnb h1 h2 h3
        have hw:((ZjU V l c).1.map (fun n=>-1*n),-1*(ZjU V l c).2+(j:Int))=Zd0 V l c true j:=rfl
        simp only[Bool.not_true,cond_false,hw,hats]
        refine⟨hatp _ ⟨hnb.small (by omega) (by omega),hnb.1⟩ true,Zes (hsubg _ hnb true).D.1 hk2 hol2 (fun h4 hn=>?_) (fun hs=>⟨hf,h1 hs⟩) (fun hn=>?_) (fun hs=>⟨hf,h2 hs⟩)⟩
        ·simp only[h00,Zb.fn,h4,h30,Bool.or_true,cond_true]
         exact⟨fun h=>⟨h,trivial⟩,fun h=>rfl,hfail (hnn (by rw[hFc,hlow];exact h3 hn))⟩
        ·exact⟨fun h=>⟨h,trivial⟩,fun h=>by rw[h];rfl,hfail (hnn (by rw[hFc,hlow];exact h3 hn))⟩
     ·rw[hlen]
      simp only[Int.lt_irrefl,decide_false,cond_false]
      exact⟨⟨by omega,by omega⟩,hR' _ ⟨rfl,by rw[hsn,hFc];exact ht2,hk2,hol2⟩⟩
  ·have:i=(Zu V p).length:=by omega
   subst this
   rw[List.take_length] at ht
   simp only[Int.lt_irrefl,decide_false,cond_false]
   exact⟨fun h=>⟨h,trivial⟩,fun h=>by rw[h];rfl,hdone out ht⟩
end
theorem ZjD{p q:List Zc}(h:∀ x,x∈p↔x∈q):ZaP p=ZaP q:=by
 unfold ZaP
 rw[Bool.eq_iff_iff]
 simp only[List.any_eq_true,List.mem_map]
 constructor
 ·rintro⟨r,⟨c,hc,rfl⟩,hr⟩;exact⟨_,⟨c,(h c).1 hc,rfl⟩,hr⟩
 ·rintro⟨r,⟨c,hc,rfl⟩,hr⟩;exact⟨_,⟨c,(h c).2 hc,rfl⟩,hr⟩
theorem Zmd{p q:List Zc}(h:∀ x,x∈p↔x∈q)(x:Zc):x∈Zb3 p↔x∈Zb3 q:=by
 unfold Zb3
 simp only[List.mem_map,List.mem_filter]
 constructor
 ·rintro⟨r,⟨⟨c,hc,rfl⟩,hr⟩,rfl⟩;exact⟨_,⟨⟨c,(h c).1 hc,rfl⟩,hr⟩,rfl⟩
 ·rintro⟨r,⟨⟨c,hc,rfl⟩,hr⟩,rfl⟩;exact⟨_,⟨⟨c,(h c).2 hc,rfl⟩,hr⟩,rfl⟩
theorem ZwK{p q:List Zc}(h:∀ x,x∈p↔x∈q):Lm p=Lm q:=by
 funext x
 apply propext
 unfold Lm
 constructor
 ·rintro⟨h1,h2⟩;exact⟨(h x).1 h1,fun h0 d hd=>h2 h0 d ((h d).2 hd)⟩
 ·rintro⟨h1,h2⟩;exact⟨(h x).2 h1,fun h0 d hd=>h2 h0 d ((h d).1 hd)⟩
theorem Zs0{p q:List Zc}{n:Nat}(hp:Zay p∧Zda p n)(hq:Zay q∧Zda q n)(h:∀ x,x∈p↔x∈q):Z9 p=Z9 q:=by
 by_cases hv:ZaP p=true
 ·rw[Zcv,Zcv,← ZjD h,hv];rfl
 ·have hv:ZaP p=false:=by simpa using hv
  have hv2:ZaP q=false:=by rw[← ZjD h];exact hv
  obtain⟨a1,a2⟩:=Zea hp.1 hp.2 hv
  obtain⟨b1,b2⟩:=Zea hq.1 hq.2 hv2
  have hL:Lm (Zb3 q)=Lm (Zb3 p):=(ZwK (Zmd h)).symm
  rw[hL] at b1 b2
  by_cases hV:Zhv (Lm (Zb3 p))∨Zgd (MM (Lm (Zb3 p)))
  ·rw[a1 hV,b1 hV]
  ·obtain⟨m,hm⟩:=Zir hp.1 hp.2 hv (fun h=>hV (.inl h)) (fun h=>hV (.inr h))
   rw[a2 (fun h=>hV (.inl h)) (fun h=>hV (.inr h)) m hm,b2 (fun h=>hV (.inl h)) (fun h=>hV (.inr h)) m hm]
   have hany:(Zb3 p).any (fun c=>!Zd c)=(Zb3 q).any (fun c=>!Zd c):=by
    rw[Bool.eq_iff_iff]
    simp only[List.any_eq_true]
    constructor
    ·rintro⟨c,hc,h2⟩;exact⟨c,(Zmd h c).1 hc,h2⟩
    ·rintro⟨c,hc,h2⟩;exact⟨c,(Zmd h c).2 hc,h2⟩
   rw[hany]
theorem Zf5{α:Type}{d:α}:∀ {l:List α} {k:Nat},k < l.length→l=l.take k++l.getD k d::l.drop (k+1)
 | [],k,h=>by simp at h
 | x::l,0,_=>by simp
 | x::l,k+1,h=>by
   simp only[List.take_succ_cons,List.getD_cons_succ,List.drop_succ_cons,List.cons_append]
   congr 1
   exact Zf5 (by simpa using h)
theorem Zjq{α:Type}(d:α)(l:List α)(k:Nat)(hk:k < l.length):((Zbx d l).filter fun ix=>decide (ix.1≠k)).map (·.2)=l.take k++l.drop (k+1):=by
 have hr:List.range l.length=List.range k++k::(List.range (l.length - (k+1))).map (fun j=>j+(k+1)):=by
  obtain⟨r,hr⟩:∃ r,l.length - (k+1)=r:=⟨_,rfl⟩
  rw[hr,show l.length=k+(1+r) by omega,List.range_add,List.range_add,List.map_append,List.map_map]
  congr 1
  show [k+0]++_=_
  rw[List.singleton_append]
  congr 1
  apply List.map_congr_left
  intro j _
  show k+(1+j)=j+(k+1)
  omega
 unfold Zbx
 rw[hr,List.map_append,List.map_cons,List.filter_append,List.map_append,List.filter_cons_of_neg (by simp)]
 congr 1
 ·rw[List.filter_eq_self.2 ?_,List.map_map]
  ·apply List.ext_getElem (by simp;omega)
   intro i h1 h2
   simp only[List.length_map,List.length_range] at h1
   simp only[List.getElem_map,List.getElem_range,Function.comp,List.getElem_take]
   exact ZN (by omega)
  ·intro x hx
   simp only[List.mem_map,List.mem_range] at hx
   obtain⟨i,hi,rfl⟩:=hx
   simp;omega
 ·rw[List.filter_eq_self.2 ?_,List.map_map,List.map_map]
  ·apply List.ext_getElem (by simp)
   intro i h1 h2
   simp only[List.length_map,List.length_range] at h1
   simp only[List.getElem_map,List.getElem_range,Function.comp,List.getElem_drop]
   rw[ZN (by omega)]
   congr 1;omega
  ·intro x hx
   simp only[List.mem_map,List.mem_range] at hx
   obtain⟨j,⟨i,hi,rfl⟩,rfl⟩:=hx
   simp;omega
theorem ZhO(v:Nat)(a b:List Zc):Zu v (a++b)=Zu v a++Zu v b:=List.filter_append _ _
theorem ZoB {v : Nat} {p : List Zc} {j : Nat} (hj : j < p.length) (h0 : Ze v (p.getD j Za) ≠ 0) : (Zu v (p.take j)).length < (Zu v p).length ∧ (Zu v p).getD (Zu v (p.take j)).length Za = p.getD j Za ∧
 (Zu v p).take (Zu v (p.take j)).length++(Zu v p).drop ((Zu v (p.take j)).length+1)=Zu v (p.take j++p.drop (j+1)):=by
 have e:Zu v p=Zu v (p.take j)++p.getD j Za::Zu v (p.drop (j+1)):=by
  have:=congrArg (Zu v) (Zf5 (d:=Za) hj)
  rw[this,ZhO]
  congr 1
  show List.filter _ (p.getD j Za::p.drop (j+1))=_
  rw[List.filter_cons_of_pos (by simpa using h0)]
  rfl
 rw[e]
 refine⟨by simp,?_,?_⟩
 ·rw[List.getD_eq_getElem?_getD,List.getElem?_append_right (Nat.le_refl _)];simp
 ·rw[ZhO]
  congr 1
  ·simp
  ·rw[List.drop_append];simp
def eqQ(v:Nat)(p:List Zc)(i:Nat):Int:=if eqJ v p i < 0 then -1 else ((Zu v (p.take (eqJ v p i).toNat)).length:Int)
theorem ZvP(v:Nat)(e c:Zc):Zuz (ZaK v e) (ZaK v c)=Zmw v e c:=by
 unfold Zuz Zmw ZaK
 simp only
 rw[Int.mul_comm (Zbh (Ze v e)) c.2.1,Int.mul_comm _ (Ze v c)]
theorem ZnB {p : List Zc} {N V : Nat} (hN : pieceN p (N : Int)) (hV : V < N) {j : Nat} (hj : j < p.length) (h0 : Ze V (p.getD j Za) ≠ 0) (n : Int) (lows ups divs : List Part) :
 Zay (ZeZ (n,Zb1 V p,(Zu V p).map (ZaK V),((Zu V (p.take j)).length:Int),lows,ups,divs)) ∧
 Z9 (ZeZ (n,Zb1 V p,(Zu V p).map (ZaK V),((Zu V (p.take j)).length:Int),lows,ups,divs))=Z9 (ZcT V p j):=by
 obtain⟨k1,k2,k3⟩:=ZoB hj h0
 obtain⟨e,he⟩:∃ e,p.getD j Za=e:=⟨_,rfl⟩
 obtain⟨tail,htail⟩:∃ tail:List Zc,tail=if 1 < Zbh (Ze V e) then [(2,Zbh (Ze V e),ZaN V e)] else []:=⟨_,rfl⟩
 have hq:ZeZ (n,Zb1 V p,(Zu V p).map (ZaK V),((Zu V (p.take j)).length:Int),lows,ups,divs)=Zb1 V p++(Zu V (p.take j++p.drop (j+1))).map (Zmw V e)++tail:=by
  unfold ZeZ
  simp only[Int.toNat_natCast]
  have hg:((Zu V p).map (ZaK V)).getD (Zu V (p.take j)).length Zcd=ZaK V e:=by rw[Zfj (d:=Za) k1,k2,he]
  rw[hg,htail]
  congr 2
  have hx:((Zbx Zcd ((Zu V p).map (ZaK V))).filter fun jq=>decide ((jq.1:Int)≠((Zu V (p.take j)).length:Int)))=((Zbx Zcd ((Zu V p).map (ZaK V))).filter fun jq=>decide (jq.1≠(Zu V (p.take j)).length)):=by
   apply List.filter_congr
   intro x _
   exact decide_eq_decide.2 (by omega)
  have hm:((Zbx Zcd ((Zu V p).map (ZaK V))).filter fun jq=>decide ((jq.1:Int)≠((Zu V (p.take j)).length:Int))).map (fun jq=>Zuz (ZaK V e) jq.2)=(((Zbx Zcd ((Zu V p).map (ZaK V))).filter fun jq=>decide (jq.1≠(Zu V (p.take j)).length)).map (·.2)).map (Zuz (ZaK V e)):=by
   rw[hx,List.map_map];rfl
  rw[hm,Zjq Zcd _ _ (by rw[List.length_map];exact k1),← List.map_take,← List.map_drop,← List.map_append,k3,List.map_map]
  apply List.map_congr_left
  intro c _
  exact ZvP V e c
 have hp:ZcT V p j=(p.take j++p.drop (j+1)).map (fun c=>if Ze V c=0 then Zdn V c else Zmw V e c)++tail:=by
  unfold ZcT
  rw[he,htail]
  congr 1
  rw[← Zjq Za p j hj,List.map_map]
  rfl
 have hmem:∀ x,x∈Zb1 V p++(Zu V (p.take j++p.drop (j+1))).map (Zmw V e)++tail↔x∈(p.take j++p.drop (j+1)).map (fun c=>if Ze V c=0 then Zdn V c else Zmw V e c)++tail:=by
  intro x
  rw[List.mem_append,List.mem_append,List.mem_append]
  have hfree:x∈Zb1 V p↔∃ c∈p.take j++p.drop (j+1),Ze V c=0∧Zdn V c=x:=by
   unfold Zb1
   simp only[List.mem_map,List.mem_filter,decide_eq_true_eq]
   constructor
   ·rintro⟨c,⟨hc,hc0⟩,rfl⟩
    refine⟨c,?_,hc0,rfl⟩
    rw[Zf5 (d:=Za) hj] at hc
    rcases List.mem_append.1 hc with hc | hc
    ·exact List.mem_append_left _ hc
    ·rcases List.mem_cons.1 hc with rfl | hc
     ·exact absurd hc0 h0
     ·exact List.mem_append_right _ hc
   ·rintro⟨c,hc,hc0,rfl⟩
    refine⟨c,⟨?_,hc0⟩,rfl⟩
    rcases List.mem_append.1 hc with hc | hc
    ·exact List.mem_of_mem_take hc
    ·exact List.mem_of_mem_drop hc
  have hmap:x∈(p.take j++p.drop (j+1)).map (fun c=>if Ze V c=0 then Zdn V c else Zmw V e c)↔(∃ c∈p.take j++p.drop (j+1),Ze V c=0∧Zdn V c=x)∨x∈(Zu V (p.take j++p.drop (j+1))).map (Zmw V e):=by
   simp only[List.mem_map,ZaT]
   constructor
   ·rintro⟨c,hc,rfl⟩
    by_cases hc0:Ze V c=0
    ·rw[if_pos hc0];exact .inl ⟨c,hc,hc0,rfl⟩
    ·rw[if_neg hc0];exact .inr ⟨c,⟨hc,hc0⟩,rfl⟩
   ·rintro (⟨c,hc,hc0,rfl⟩ | ⟨c,⟨hc,hc0⟩,rfl⟩)
    ·exact⟨c,hc,if_pos hc0⟩
    ·exact⟨c,hc,if_neg hc0⟩
  rw[hfree,hmap]
 have hgood:=ZeS hN (v:=V) (by omega) hj h0
 have hgq:Zj5 (N - 1) (ZeZ (n,Zb1 V p,(Zu V p).map (ZaK V),((Zu V (p.take j)).length:Int),lows,ups,divs)):=by
  rw[hq]
  refine⟨?_,fun c hc=>?_⟩
  ·have h1:=ZcM (v:=V) (p:=p)
   have h2:(Zu V (p.take j++p.drop (j+1))).length≤(p.take j++p.drop (j+1)).length:=List.length_filter_le _ _
   have h3:tail.length≤1:=by rw[htail];split<;>simp
   have h4:=hN.1
   simp only[List.length_append,List.length_map,List.length_take,List.length_drop] at h2 ⊢
   omega
  ·have:=(hmem c).1 hc
   rw[← hp] at this
   exact hgood.2 c this
 refine⟨hgq.D.1,Zs0 hgq.D hgood.D fun x=>?_⟩
 rw[hq,hp]
 exact hmem x
theorem ZsI(C:List Int)(V:Nat):C.take V++C.drop ((V:Int)+1).toNat=Zdg C V:=by
 rw[show ((V:Int)+1).toNat=V+1 by omega];rfl
theorem Zva{q q':List Zc}(h:Z9 q=Z9 q'):ZdX [q]=ZdX [q']:=by
 show [q].foldlM Z6 []=[q'].foldlM Z6 []
 rw[List.foldlM_cons,List.foldlM_cons]
 have:Z6 [] q=Z6 [] q':=by unfold Z6;rw[h]
 rw[this]
theorem ZY.spec(p:List Zc)(n v:Int)(hp:ZY.pre (p,n,v,())):ZY.wp p n v (fun r=>r=ZY.fn (p,n,v,())):=by
 obtain⟨hN,hv0,hv1⟩:=hp
 simp only at hN hv0 hv1
 obtain⟨V,rfl⟩:∃ V:Nat,v=(V:Int):=⟨v.toNat,by omega⟩
 obtain⟨N,rfl⟩:∃ N:Nat,n=(N:Int):=⟨n.toNat,by omega⟩
 have h400:=hN.1
 have hn12:=hN.2.2.2
 have hV:V < N:=by omega
 have hfn:ZY.fn (p,(N:Int),(V:Int),())=ZT p N V:=rfl
 have hsh:ZT p N V=match Zc9 p N V with
  | none=>([],3)
  | some l=>ZeH l:=rfl
 have hmade:∀ L,ZeH L=match ZdX L with
  | none=>([],3)
  | some out=>(out,0):=fun _=>rfl
 unfold ZY.wp
 rw[hfn]
 dsimp only
 refine⟨⟨by omega,by omega⟩,?_⟩
 refine Lp.iter p.length (fun i z=>z=((i:Int),(N:Int) - 1,eqQ V p i,Zb1 V (p.take i),(Zu V (p.take i)).map (ZaK V),(Zgn V (p.take i)).map (ZaK V),(Zb8 V (p.take i)).map (ZaK V),(upP V (p.take i)).map (ZaK V))) (by simp[eqQ,eqJ,Zb1,Zgn,Zb8,upP,Zu]) ?_
 rintro i z hle rfl R hR
 by_cases e:i < p.length
 ·have e':(i:Int) < (p.length:Int):=by omega
  have hm:=Zi (d:=Za) e
  have hR':=hR e _ rfl
  have hQ1:eqQ V p (i+1)=if Ze V (p.getD i Za)≠0∧(p.getD i Za).1=1∧(eqJ V p i < 0∨Zbh (Ze V (p.getD i Za)) < Zbh (Ze V (p.getD (eqJ V p i).toNat Za))) then ((Zu V (p.take i)).length:Int) else eqQ V p i:=by
   unfold eqQ
   rw[ZlI]
   unfold ZeA
   split
   ·rw[if_neg (by omega),Int.toNat_natCast]
   ·rfl
  rw[hQ1,ZbP (d:=Za) e,ZkP,Zkj,Zmq,Zkv,ZmK] at hR'
  simp only[decide_eq_true e',Int.toNat_natCast,cond_true,ZsI,List.length_map]
  have hJ:=Zm0 V p i (by omega)
  have hpart:0≤eqJ V p i→eqQ V p i=((Zu V (p.take (eqJ V p i).toNat)).length:Int)∧(Zu V (p.take (eqJ V p i).toNat)).length < (Zu V (p.take i)).length∧((Zu V (p.take i)).map (ZaK V)).getD (eqQ V p i).toNat Zcd=ZaK V (p.getD (eqJ V p i).toNat Za):=fun h0=>by
   rcases hJ with h | ⟨_,h2,h3,h4⟩
   ·omega
   ·have hjl:(eqJ V p i).toNat < (p.take i).length:=by rw[List.length_take];omega
    have hg:(p.take i).getD (eqJ V p i).toNat Za=p.getD (eqJ V p i).toNat Za:=by
     rw[List.getD_eq_getElem?_getD,List.getD_eq_getElem?_getD,List.getElem?_take,if_pos (by omega)]
    have hk:=ZoB (v:=V) (p:=p.take i) hjl (by rw[hg];exact h3)
    rw[List.take_take,Nat.min_eq_left (by omega),hg] at hk
    have hq:eqQ V p i=((Zu V (p.take (eqJ V p i).toNat)).length:Int):=by unfold eqQ;rw[if_neg (by omega)]
    refine⟨hq,hk.1,?_⟩
    rw[hq,Int.toNat_natCast,Zfj (d:=Za) hk.1,hk.2.1]
  have hneg:eqQ V p i < 0↔eqJ V p i < 0:=by
   unfold eqQ
   split
   ·omega
   ·omega
  obtain⟨c,hq⟩:∃ c,p.getD i Za=c:=⟨_,rfl⟩
  simp only[hq] at hm hR' ⊢
  have hcn:=hN.c hm
  have hlen:(V:Int) < (c.2.2.1.length:Int):=by have:=hcn.2;omega
  have hcoef:c.2.2.1.getD V 0=Ze V c:=rfl
  have hoth:((c.1,(c.2.1,(Zdg c.2.2.1 V,c.2.2.2))):Zc)=Zdn V c:=rfl
  have hpc:((c,(Ze V c,(Zdg c.2.2.1 V,c.2.2.2))):Part)=ZaK V c:=rfl
  simp only[hcoef,hoth,hpc]
  have hcb:=ZcP hcn.1 V
  have hfi:Zm IntKind.i64 ((i:Int)+1):=⟨by omega,by omega⟩
  have l0:(Zu V (p.take i)).length≤i:=Zdi i
  have l2:(Zgn V (p.take i)).length≤i:=Zdi i
  have l3:(Zb8 V (p.take i)).length≤i:=Zdi i
  have l4:(upP V (p.take i)).length≤i:=Zdi i
  have l1':(Zb1 V (p.take i)).length≤i:=by unfold Zb1;rw[List.length_map];exact Zdi i
  have hne:c.2.2.1≠([]:List Int):=fun h=>by rw[h] at hlen;simp at hlen;omega
  refine⟨⟨by omega,e'⟩,by omega,⟨by omega,by omega⟩,⟨hne,by omega,by omega,by omega⟩,⟨by omega,hlen⟩,?_⟩
  have obp:((((Zu V (p.take i)).length+List.length [ZaK V c])*88)≤140737488355328∧((Zu V (p.take i)).length+List.length [ZaK V c])≤9223372036854775807):=⟨by simp only[List.length_singleton];omega,by simp only[List.length_singleton];omega⟩
  by_cases h0:Ze V c=0
  ·rw[show (Ze V c == 0)=true by simpa using h0,cond_true]
   rw[if_neg (fun h=>h.1 h0),if_pos h0,if_neg (show ¬ (Ze V c≠0) from fun h=>h h0),if_neg (fun h=>h.1 h0),if_neg (fun h=>h.1 h0),if_neg (fun h=>h.1 h0),List.append_nil,List.append_nil,List.append_nil,List.append_nil] at hR'
   exact⟨⟨by simp only[List.length_singleton];omega,by simp only[List.length_singleton];omega⟩,hfi,hR'⟩
  ·rw[show (Ze V c == 0)=false by simpa using h0,cond_false]
   rw[if_neg (show ¬ Ze V c=0 from h0),List.append_nil,if_pos (show Ze V c≠0 from h0),List.map_append,List.map_cons,List.map_nil] at hR'
   by_cases h1:c.1=1
   ·rw[show (c.1 == 1)=true by simpa using h1,cond_true]
    rw[if_neg (show ¬ (Ze V c≠0∧c.1=2) from fun h=>by omega),if_neg (show ¬ (Ze V c≠0∧c.1≠1∧c.1≠2∧0 < Ze V c) from fun h=>h.2.1 h1),if_neg (show ¬ (Ze V c≠0∧c.1≠1∧c.1≠2∧¬ 0 < Ze V c) from fun h=>h.2.1 h1),List.append_nil,List.append_nil,List.append_nil] at hR'
    by_cases hE0:eqJ V p i < 0
    ·have hEq:eqQ V p i < 0:=hneg.2 hE0
     simp only[decide_eq_true hEq,Bool.not_true,Bool.true_or,cond_true]
     rw[if_pos ⟨h0,h1,.inl hE0⟩] at hR'
     simp only[Bool.false_eq_true,false_implies,true_and,Bool.true_eq_false]
     exact⟨obp,hfi,hR'⟩
    ·have hEq:¬ eqQ V p i < 0:=fun h=>hE0 (hneg.1 h)
     obtain⟨k1,k2,k3⟩:=hpart (by omega)
     have hjp:(eqJ V p i).toNat < p.length:=by rcases hJ with h | h<;>omega
     have hmE:=Zi (d:=Za) hjp
     obtain⟨ce,hce⟩:∃ ce,p.getD (eqJ V p i).toNat Za=ce:=⟨_,rfl⟩
     simp only[hce] at hmE hR' k3
     have hceb:=ZcP (hN.c hmE).1 V
     have hpce:(ZaK V ce).2.1=Ze V ce:=rfl
     simp only[k3,hpce,decide_eq_false hEq,Bool.not_false,Bool.false_or]
     have hcf:Zm IntKind.i64 (-Ze V c):=⟨by omega,by omega⟩
     have hcef:Zm IntKind.i64 (-Ze V ce):=⟨by omega,by omega⟩
     have hEr:(0:Int)≤eqQ V p i∧eqQ V p i < ((Zu V (p.take i)).length:Int):=⟨by omega,by omega⟩
     have hEn:(eqQ V p i).toNat < (Zu V (p.take i)).length:=by omega
     refine⟨fun h=>⟨h,hcf⟩,fun h=>⟨h,h,trivial⟩,fun h=>⟨h,trivial⟩,fun h=>⟨h,trivial⟩,fun h=>⟨h,h,hEr⟩,fun h=>⟨h,trivial⟩,fun h=>⟨h,hEn⟩,fun h=>⟨h,trivial⟩,fun h=>⟨h,trivial⟩,fun h=>⟨h,h,hEr⟩,fun h=>⟨h,trivial⟩,fun h=>⟨h,hEn⟩,fun h=>⟨h,hcef⟩,fun h=>⟨h,h,trivial⟩,fun h=>⟨h,h,trivial⟩,fun _=>trivial,?_⟩
     by_cases hlt:Zbh (Ze V c) < Zbh (Ze V ce)
     ·have hlt':Max.max (Ze V c) (-Ze V c) < Max.max (Ze V ce) (-Ze V ce):=hlt
      rw[decide_eq_true hlt',cond_true]
      rw[if_pos ⟨h0,h1,.inr hlt⟩] at hR'
      exact⟨obp,hfi,hR'⟩
     ·have hlt':¬ Max.max (Ze V c) (-Ze V c) < Max.max (Ze V ce) (-Ze V ce):=hlt
      rw[decide_eq_false hlt',cond_false]
      rw[if_neg (fun h=>h.2.2.elim hE0 hlt)] at hR'
      exact⟨obp,hfi,hR'⟩
   ·rw[show (c.1 == 1)=false by simpa using h1,cond_false]
    rw[if_neg (fun h=>h1 h.2.1)] at hR'
    by_cases h2:c.1=2
    ·rw[show (c.1 == 2)=true by simpa using h2,cond_true]
     rw[if_pos ⟨h0,h2⟩,if_neg (fun h=>h.2.2.1 h2),if_neg (fun h=>h.2.2.1 h2),List.append_nil,List.append_nil,List.map_append,List.map_cons,List.map_nil] at hR'
     exact⟨⟨by simp only[List.length_singleton];omega,by simp only[List.length_singleton];omega⟩,obp,hfi,hR'⟩
    ·rw[show (c.1 == 2)=false by simpa using h2,cond_false]
     rw[if_neg (show ¬ (Ze V c≠0∧c.1=2) from fun h=>h2 h.2),List.append_nil] at hR'
     by_cases hpos:0 < Ze V c
     ·rw[decide_eq_true hpos,cond_true]
      rw[if_pos ⟨h0,h1,h2,hpos⟩,if_neg (fun h=>h.2.2.2 hpos),List.append_nil,List.map_append,List.map_cons,List.map_nil] at hR'
      exact⟨⟨by simp only[List.length_singleton];omega,by simp only[List.length_singleton];omega⟩,obp,hfi,hR'⟩
     ·rw[decide_eq_false hpos,cond_false]
      rw[if_neg (fun h=>hpos h.2.2.2),if_pos ⟨h0,h1,h2,hpos⟩,List.append_nil,List.map_append,List.map_cons,List.map_nil] at hR'
      exact⟨⟨by simp only[List.length_singleton];omega,by simp only[List.length_singleton];omega⟩,obp,hfi,hR'⟩
 have hip:i=p.length:=by omega
 subst hip
 rw[decide_eq_false (Int.lt_irrefl _),cond_false,List.take_length]
 have hJ:=Zm0 V p p.length (Nat.le_refl _)
 have hJe:eqJ V p p.length=eqI V p:=rfl
 rw[hJe] at hJ
 have hQe:eqQ V p p.length=if eqI V p < 0 then -1 else ((Zu V (p.take (eqI V p).toNat)).length:Int):=rfl
 have hle:∀ f:Zc→Bool,(p.filter f).length≤400:=fun f=>Nat.le_trans (List.length_filter_le _ _) h400
 have hPcB:∀ (n e:Int) (divs:List Part),PcB (N - 1) (n,Zb1 V p,(Zu V p).map (ZaK V),e,(Zb8 V p).map (ZaK V),(upP V p).map (ZaK V),divs):=fun n e divs=>by
  refine⟨Nat.le_trans ZcM h400,⟨by show ((Zu V p).map _).length≤400;rw[List.length_map];exact hle _,fun q hq=>?_⟩,⟨by show ((Zb8 V p).map _).length≤400;rw[List.length_map];exact hle _,fun q hq=>?_⟩,⟨by show ((upP V p).map _).length≤400;rw[List.length_map];exact hle _,fun q hq=>?_⟩⟩
  ·obtain⟨c,hc,rfl⟩:=List.mem_map.1 hq
   exact Zho hN hV (ZaT.1 hc).1
  ·obtain⟨c,hc,rfl⟩:=List.mem_map.1 hq
   exact Zho hN hV (List.mem_filter.1 hc).1
  ·obtain⟨c,hc,rfl⟩:=List.mem_map.1 hq
   exact Zho hN hV (List.mem_filter.1 hc).1
 have h30:((3:Int) != (0:Int))=true:=rfl
 have h00:((0:Int) != (0:Int))=false:=rfl
 have one:∀ (q q':List Zc),Zay q→Z9 q=Z9 q'→Zc9 p N V=some [q']→Lp (σ:=Int×(List (List (Zc)))×(ByteArray→Option Bool)) (fun y6 R6=>let v13:=List.getD [q] (Int.toNat y6.1) ([]:List (Zc));let v14:=Zq.fn ((Zb.fn (v13,())).1,());let v16:=[(Zb.fn (v13,())).1];cond (decide (y6.1 < ((List.length [q]:Nat):Int))) (((0:Int)≤y6.1∧y6.1 < ((List.length [q]:Nat):Int))∧(Zb.pre (v13,())∧cond (((Zb.fn (v13,())).2).2 != (0:Int)) (((!((0:Int) != (0:Int)))=true→((!((0:Int) != (0:Int)))=true∧True))∧((((0:Int) != (0:Int))=false→(!((0:Int) != (0:Int)))=true)∧cond (((0:Int) != (0:Int))||(((Zb.fn (v13,())).2).2 != (0:Int))) ((([]:List (List (Zc))),(3:Int))=ZT p N V) ((([]:List (List (Zc))),(0:Int))=ZT p N V))) (((!(((Zb.fn (v13,())).2).1))=true→((!(((Zb.fn (v13,())).2).1))=true∧Zq.pre ((Zb.fn (v13,())).1,())))∧(((!(((Zb.fn (v13,())).2).1))=true→((!(((Zb.fn (v13,())).2).1))=true∧((!(((Zb.fn (v13,())).2).1))=true∧True)))∧((((Zb.fn (v13,())).2).1=false→(!(((Zb.fn (v13,())).2).1))=true)∧cond (((Zb.fn (v13,())).2).1||(Option.getD (y6.2.2 v14) false)) (Zm IntKind.i64 (y6.1+(1:Int))∧R6 ((y6.1+(1:Int)),y6.2)) (Zq.pre ((Zb.fn (v13,())).1,())∧((((List.length y6.2.1+List.length v16)*24)≤140737488355328∧(List.length y6.2.1+List.length v16)≤9223372036854775807)∧cond (decide ((400:Int) < (((List.length (y6.2.1++v16)):Nat):Int))) (((!((0:Int) != (0:Int)))=true→((!((0:Int) != (0:Int)))=true∧True))∧((((0:Int) != (0:Int))=false→(!((0:Int) != (0:Int)))=true)∧(([]:List (List (Zc))),(3:Int))=ZT p N V)) (Zm IntKind.i64 (y6.1+(1:Int))∧R6 ((y6.1+(1:Int)),((y6.2.1++v16),ZdP y6.2.2 v14 true)))))))))) (((!((0:Int) != (0:Int)))=true→((!((0:Int) != (0:Int)))=true∧True))∧((((0:Int) != (0:Int))=false→(!((0:Int) != (0:Int)))=true)∧(y6.2.1,(0:Int))=ZT p N V))) ((0:Int),(([]:List (List (Zc))),fun (a6:ByteArray)=>(none:Option Bool))):=by
  intro q q' hB ht hS
  have hres:ZT p N V=match ZdX [q] with
   | none=>([],3)
   | some out=>(out,0):=by rw[hsh,hS,Zva ht];exact hmade _
  refine Lp.tid [q] [] _ ZeG.nil (by simp) (by simp) (fun i out m R hi hi' hf hk hol h1 h2 h3=>?_) (fun out m R ht hk hol=>?_)
  ·have hi0:i=0:=by simpa using hi
   subst hi0
   have hg:List.getD [q] 0 []=q:=rfl
   rw[hg] at h1 h2 h3
   dsimp only
   rw[decide_eq_true hi',cond_true,Int.toNat_natCast,hg]
   refine⟨⟨by omega,hi'⟩,Zes hB hk hol (fun h4 hn=>?_) (fun hs=>⟨hf,h1 hs⟩) (fun hn=>?_) (fun hs=>⟨hf,h2 hs⟩)⟩
   ·have hn':ZdX [q]=none:=h3 hn
    simp only[h00,Zb.fn,h4,h30,Bool.or_true,cond_true]
    exact⟨fun h=>⟨h,trivial⟩,fun h=>rfl,by rw[hres,hn']⟩
   ·have hn':ZdX [q]=none:=h3 hn
    exact⟨fun h=>⟨h,trivial⟩,fun h=>by rw[h];rfl,by rw[hres,hn']⟩
  ·have ht':ZdX [q]=some out:=ht
   dsimp only
   rw[decide_eq_false (Int.lt_irrefl _),cond_false]
   exact⟨fun h=>⟨h,trivial⟩,fun h=>by rw[h];rfl,by rw[hres,ht']⟩
 by_cases hE:0≤eqI V p
 ·rcases hJ with h | ⟨h1,h2,h3,h4⟩
  ·omega
  ·have hQv:eqQ V p p.length=((Zu V (p.take (eqI V p).toNat)).length:Int):=by rw[hQe,if_neg (by omega)]
   have hjp:(eqI V p).toNat < p.length:=by omega
   obtain⟨k1,_,_⟩:=ZoB hjp h3
   have hS:Zc9 p N V=some [ZcT V p (eqI V p).toNat]:=by unfold Zc9;rw[if_pos hE]
   rw[hQv,decide_eq_true (show (0:Int)≤((Zu V (p.take (eqI V p).toNat)).length:Int) by omega),cond_true]
   obtain⟨b1,b2⟩:=ZnB hN hV hjp h3 ((N:Int) - 1) ((Zb8 V p).map (ZaK V)) ((upP V p).map (ZaK V)) ((Zgn V p).map (ZaK V))
   refine⟨⟨⟨N - 1,hPcB _ _ _⟩,by show (0:Int)≤((Zu V (p.take (eqI V p).toNat)).length:Int);omega,by show ((Zu V (p.take (eqI V p).toNat)).length:Int) < (((Zu V p).map (ZaK V)).length:Int);rw[List.length_map];omega⟩,?_⟩
   exact one _ _ b1 b2 hS
 ·have hQv:eqQ V p p.length=-1:=by rw[hQe,if_pos (by omega)]
  rw[hQv,decide_eq_false (show ¬ (0:Int)≤-1 by omega),cond_false]
  have tried:¬ (Zgn V p=[]∧(Zb8 V p=[]∨upP V p=[]))→ZhP V p=false→∀ e,ZeV ((N:Int) - 1) (Zb1 V p) ((Zu V p).map (ZaK V)) e ((Zb8 V p).map (ZaK V)) ((upP V p).map (ZaK V)) ((Zgn V p).map (ZaK V)) (fun r=>r=ZT p N V):=fun hA hX e=>by
   refine ZeV.spec hN hV e _ fun r hr=>?_
   have hS:Zc9 p N V=if (ZbJ V p).2≠0 then none else if (Zfs V p (ZbJ V p).1).2≠0 then none else some (Zch V p (N - 1) (ZbJ V p).1 (Zfs V p (ZbJ V p).1).1.toNat):=by
    unfold Zc9;rw[if_neg hE,if_neg hA,if_neg (by rw[hX];simp)]
   rw[hr,hsh,hS]
   split
   ·rfl
   ·split
    ·rfl
    ·rfl
  by_cases hD:Zgn V p=[]
  rotate_left
  ·have hdl:(0:Int) < ((((Zgn V p).map (ZaK V)).length:Nat):Int):=by
    rw[List.length_map]
    have:(Zgn V p).length≠0:=fun h=>hD (List.eq_nil_of_length_eq_zero h)
    omega
   rw[decide_eq_true hdl,cond_true]
   refine tried (fun h=>hD h.1) ?_ (-1)
   unfold ZhP
   cases hh:Zgn V p with
   | nil=>exact absurd hh hD
   | cons x l=>rfl
  have hdl:¬ (0:Int) < ((((Zgn V p).map (ZaK V)).length:Nat):Int):=by rw[hD];simp
  rw[decide_eq_false hdl,cond_false]
  have hlowlen:(Zb8 V p).length≤400:=hle _
  have huplen:(upP V p).length≤400:=hle _
  refine Lp.iter (Zb8 V p).length (fun i z=>z=(i:Int)∧∀ a,a < i→∀ b,b < (upP V p).length→Ze V ((Zb8 V p).getD a Za)=1∨Ze V ((upP V p).getD b Za)=-1) ⟨rfl,fun a ha=>absurd ha (by omega)⟩ ?_
  rintro i z hi ⟨rfl,hdone⟩ R1 hR1
  dsimp only
  by_cases e:i < (Zb8 V p).length
  ·have e':(i:Int) < ((((Zb8 V p).map (ZaK V)).length:Nat):Int):=by rw[List.length_map];omega
   have hgl:((Zb8 V p).map (ZaK V)).getD i Zcd=ZaK V ((Zb8 V p).getD i Za):=Zfj e
   rw[decide_eq_true e',cond_true,Int.toNat_natCast,hgl]
   refine⟨⟨by omega,e'⟩,?_⟩
   have hcx:(ZaK V ((Zb8 V p).getD i Za)).2.1=Ze V ((Zb8 V p).getD i Za):=rfl
   rw[hcx]
   refine Lp.iter (upP V p).length (fun j z=>z=(j:Int)∧∀ b,b < j→Ze V ((Zb8 V p).getD i Za)=1∨Ze V ((upP V p).getD b Za)=-1) ⟨rfl,fun a ha=>absurd ha (by omega)⟩ ?_
   rintro j z hj ⟨rfl,hdj⟩ R2 hR2
   by_cases ej:j < (upP V p).length
   ·have ej':(j:Int) < ((((upP V p).map (ZaK V)).length:Nat):Int):=by rw[List.length_map];omega
    have hgu:((upP V p).map (ZaK V)).getD j Zcd=ZaK V ((upP V p).getD j Za):=Zfj ej
    have hcy:(ZaK V ((upP V p).getD j Za)).2.1=Ze V ((upP V p).getD j Za):=rfl
    rw[decide_eq_true ej',cond_true,Int.toNat_natCast,hgu,hcy]
    refine⟨⟨by omega,ej'⟩,fun h=>⟨h,trivial⟩,fun h=>⟨h,trivial⟩,fun h=>h,?_⟩
    by_cases hb:Ze V ((Zb8 V p).getD i Za)=1∨Ze V ((upP V p).getD j Za)=-1
    ·have hc:(Ze V ((Zb8 V p).getD i Za) != 1&&Ze V ((upP V p).getD j Za) != -(1:Int))=false:=by
      rw[Bool.and_eq_false_iff]
      exact hb.imp (fun h=>by rw[h];rfl) (fun h=>by rw[h];rfl)
     rw[hc,cond_false]
     refine⟨⟨by omega,by omega⟩,hR2 ej _ ⟨rfl,fun b hbj=>?_⟩⟩
     by_cases hbe:b=j
     ·subst hbe;exact hb
     ·exact hdj b (by omega)
    ·have hc:(Ze V ((Zb8 V p).getD i Za) != 1&&Ze V ((upP V p).getD j Za) != -(1:Int))=true:=by
      simp only[not_or] at hb
      rw[Bool.and_eq_true]
      exact⟨by simpa using hb.1,by simpa using hb.2⟩
     rw[hc,cond_true]
     refine tried (fun h=>?_) ?_ (-1)
     ·rcases h.2 with h | h
      ·rw[h] at e;simp at e
      ·rw[h] at ej;simp at ej
     ·unfold ZhP
      rw[Bool.and_eq_false_iff]
      right
      rw[List.all_eq_false]
      refine⟨_,Zi (d:=Za) e,?_⟩
      rw[Bool.not_eq_true,List.all_eq_false]
      refine⟨_,Zi (d:=Za) ej,by simpa using hb⟩
   ·have:j=(upP V p).length:=by omega
    subst this
    rw[decide_eq_false (by rw[List.length_map];omega),cond_false]
    refine⟨⟨by omega,by omega⟩,hR1 e _ ⟨rfl,fun a ha b hb=>?_⟩⟩
    by_cases hae:a=i
    ·subst hae;exact hdj b hb
    ·exact hdone a (by omega) b hb
  ·have:i=(Zb8 V p).length:=by omega
   subst this
   rw[decide_eq_false (by rw[List.length_map];omega),cond_false]
   have hpaired:ZA.fn (((N:Int) - 1,Zb1 V p,(Zu V p).map (ZaK V),(-1:Int),(Zb8 V p).map (ZaK V),(upP V p).map (ZaK V),(Zgn V p).map (ZaK V)),())=[Zj1 V p]:=by
    show [Zb1 V p++((Zb8 V p).map (ZaK V)).flatMap fun l=>((upP V p).map (ZaK V)).map fun u=>((0:Int),(0:Int),ZcF l.2.1 u.2.2 (-u.2.1) l.2.2)]=_
    unfold Zj1
    rw[List.flatMap_map]
    congr 2
    congr 1
    funext x
    rw[List.map_map]
    rfl
   have hX:ZhP V p=true:=by
    unfold ZhP
    rw[hD,Bool.and_eq_true]
    refine⟨rfl,List.all_eq_true.2 fun x hx=>List.all_eq_true.2 fun y hy=>?_⟩
    obtain⟨a,ha,rfl⟩:=Zb9 (d:=Za) hx
    obtain⟨b,hb,rfl⟩:=Zb9 (d:=Za) hy
    simpa using hdone a ha b hb
   have hS:Zc9 p N V=some [Zj1 V p]:=by
    unfold Zc9
    rw[if_neg hE]
    by_cases hA:Zgn V p=[]∧(Zb8 V p=[]∨upP V p=[])
    ·rw[if_pos hA]
     have:Zj1 V p=Zb1 V p:=by
      unfold Zj1
      rcases hA.2 with h | h
      ·rw[h];simp
      ·rw[h];simp
     rw[this]
    ·rw[if_neg hA,if_pos hX]
   refine⟨⟨N - 1,hPcB _ _ _⟩,?_⟩
   rw[hpaired]
   exact one _ _ (Zhh hN (v:=V) (by omega)).D.1 rfl hS
abbrev ZbQ.fn(x:Int×List Int×Unit):Zc:=(0,0,x.2.1,x.1)
abbrev Zaw.fn(x:Int×Int×Unit):List Zc:=[(2,x.1,[1],x.2.1)]
abbrev ZC.fn(x:Unit):Bool:=true
def ZtH(s:ZbZ):Int:=s.2.foldl (fun m p=>max m (p.length:Int)) 0
def Zq5(pieces conds vars:Int)(l:List ZbZ):Bool:=Z2.fn (pieces,conds,l,())&&l.all fun s=>!(decide (vars < s.1)&&decide (s.1≤12)&&decide (1 < ZtH s)) &&
 s.2.all fun p=>p.all fun c=>(c.2.2.1.all fun n=>!((decide (6 < n)||decide (n < -6))&&Zr s))&&!(decide (12 < c.2.1)&&Zr s)
abbrev ZF.fn(x:Int×Int×Int×List ZbZ×Unit):Bool:=Zq5 x.1 x.2.1 x.2.2.1 x.2.2.2.1
def ZbK(a b:ZbZ):Bool×Int:=if (ZcE a b).2≠0 then (false,(ZcE a b).2) else Zdx (ZcE a b).1
abbrev Zas.fn(x:ZbZ×ZbZ×Unit):Bool×Int:=ZbK x.1 x.2.1
abbrev Zav.fn(x:ZbZ×ZbZ×Unit):Bool×Int:=ZbK x.1 x.2.1
def ZpZ(a b:ZbZ):Bool×Int:=if (ZbK a b).2≠0∨(ZbK a b).1=false then (false,(ZbK a b).2) else ZbK b a
abbrev ZbH.fn(x:ZbZ×ZbZ×Unit):Bool×Int:=ZpZ x.1 x.2.1
abbrev Za0.fn(x:ZbZ×ZbZ×Unit):Bool×Int:=ZpZ x.1 x.2.1
def Zbz.wp(x0:Int×(List (List Zc)))(x1:Int)(Q:(Int×(List (List Zc)))×Int→Prop):Prop:=let v0:=List.length (((ZH.fn (x0,())).1).2);cond (!(Zao.fn (x0,()))) (Q (((0:Int),([]:List (List (Zc)))),(1:Int))) (((!(decide (x1 < (0:Int))))=true→((!(decide (x1 < (0:Int))))=true∧True))∧(((!(decide (x1 < (0:Int))))=true→((!(decide (x1 < (0:Int))))=true∧((!(decide (x1 < (0:Int))))=true∧True)))∧((decide (x1 < (0:Int))=false→(!(decide (x1 < (0:Int))))=true)∧cond (decide (x1 < (0:Int))||decide (x0.1≤x1)) (Q (((0:Int),([]:List (List (Zc)))),(6:Int))) (cond ((ZH.fn (x0,())).2 != (0:Int)) (Q (((0:Int),([]:List (List (Zc)))),(ZH.fn (x0,())).2)) (Lp (σ:=Int×List (List (Zc))) (fun y3 R3=>let v1:=List.getD (((ZH.fn (x0,())).1).2) (Int.toNat y3.1) ([]:List (Zc));let v2:=ZY.fn (v1,(x0.1,(x1,())));cond (decide (y3.1 < ((v0:Nat):Int))) (((0:Int)≤y3.1∧y3.1 < ((v0:Nat):Int))∧(ZY.pre (v1,(x0.1,(x1,())))∧cond (v2.2 != (0:Int)) (Q (((0:Int),([]:List (List (Zc)))),v2.2)) ((((List.length y3.2+List.length v2.1)*24)≤140737488355328∧(List.length y3.2+List.length v2.1)≤9223372036854775807)∧(Zm IntKind.i64 (y3.1+(1:Int))∧R3 ((y3.1+(1:Int)),(y3.2++v2.1)))))) (Lp (σ:=Int×(List (List (Zc)))×(ByteArray→Option Bool)) (fun y5 R5=>let v3:=List.getD y3.2 (Int.toNat y5.1) ([]:List (Zc));let v4:=Zq.fn ((Zb.fn (v3,())).1,());let v6:=[(Zb.fn (v3,())).1];cond (decide (y5.1 < ((List.length y3.2:Nat):Int))) (((0:Int)≤y5.1∧y5.1 < ((List.length y3.2:Nat):Int))∧(Zb.pre (v3,())∧cond (((Zb.fn (v3,())).2).2 != (0:Int)) (cond (((Zb.fn (v3,())).2).2 != (0:Int)) (Q (((0:Int),([]:List (List (Zc)))),((Zb.fn (v3,())).2).2)) (Zm IntKind.i64 (x0.1 - (1:Int))∧Q (((x0.1 - (1:Int)),([]:List (List (Zc)))),(0:Int)))) (((!(((Zb.fn (v3,())).2).1))=true→((!(((Zb.fn (v3,())).2).1))=true∧Zq.pre ((Zb.fn (v3,())).1,())))∧(((!(((Zb.fn (v3,())).2).1))=true→((!(((Zb.fn (v3,())).2).1))=true∧((!(((Zb.fn (v3,())).2).1))=true∧True)))∧((((Zb.fn (v3,())).2).1=false→(!(((Zb.fn (v3,())).2).1))=true)∧cond (((Zb.fn (v3,())).2).1||(Option.getD (y5.2.2 v4) false)) (Zm IntKind.i64 (y5.1+(1:Int))∧R5 ((y5.1+(1:Int)),y5.2)) (Zq.pre ((Zb.fn (v3,())).1,())∧((((List.length y5.2.1+List.length v6)*24)≤140737488355328∧(List.length y5.2.1+List.length v6)≤9223372036854775807)∧cond (decide ((400:Int) < (((List.length (y5.2.1++v6)):Nat):Int))) (Q (((0:Int),([]:List (List (Zc)))),(3:Int))) (Zm IntKind.i64 (y5.1+(1:Int))∧R5 ((y5.1+(1:Int)),((y5.2.1++v6),ZdP y5.2.2 v4 true)))))))))) (Zm IntKind.i64 (x0.1 - (1:Int))∧Q (((x0.1 - (1:Int)),y5.2.1),(0:Int)))) ((0:Int),(([]:List (List (Zc))),fun (a5:ByteArray)=>(none:Option Bool))))) ((0:Int),([]:List (List (Zc)))))))))
def Zs.wp(N:Nat)(x0:List Zc)(x1:Int)(Q:Bool×Int→Prop):Prop:=let v0:=Zac.fn (x0,(x1,()));let v1:=Zae.fn (x0,(x1,(v0,())));cond (x1 == (0:Int)) (Q (true,(0:Int))) (Zac.pre (x0,(x1,()))∧(Zae.pre (x0,(x1,(v0,())))∧cond (v1.2 != (0:Int)) (Q (false,v1.2)) (Lp (σ:=Int) (fun y4 R4=>let v2:=List.getD v1.1 (Int.toNat y4) ([]:List (Zc));let v3:=Zs.fn (v2,((x1 - (1:Int)),()));cond (decide (y4 < ((List.length v1.1:Nat):Int))) (((0:Int)≤y4∧y4 < ((List.length v1.1:Nat):Int))∧(Zm IntKind.i64 (x1 - (1:Int))∧(Zs.preN N (v2,((x1 - (1:Int)),()))∧(((!v3.1)=true→((!v3.1)=true∧True))∧((v3.1=false→(!v3.1)=true)∧cond (v3.1||(v3.2 != (0:Int))) (Q v3) (Zm IntKind.i64 (y4+(1:Int))∧R4 (y4+(1:Int)))))))) (Q (false,(0:Int)))) (0:Int))))
def Zbc.wp(x0:Int×(List (List Zc)))(Q:Bool×Int→Prop):Prop:=let v0:=Zam.fn (x0,());cond (!(ZJ.fn (x0,()))) (Q (false,(1:Int))) (cond (v0.2 != (0:Int)) (Q (false,v0.2)) (Lp (σ:=Int) (fun y2 R2=>let v1:=List.getD v0.1.2 (Int.toNat y2) ([]:List (Zc));let v2:=Zs.fn (v1,(x0.1,()));cond (decide (y2 < ((List.length v0.1.2:Nat):Int))) (((0:Int)≤y2∧y2 < ((List.length v0.1.2:Nat):Int))∧(Zs.pre (v1,(x0.1,()))∧(((!v2.1)=true→((!v2.1)=true∧True))∧((v2.1=false→(!v2.1)=true)∧cond (v2.1||(v2.2 != (0:Int))) (Q (false,v2.2)) (Zm IntKind.i64 (y2+(1:Int))∧R2 (y2+(1:Int))))))) (Q (true,(0:Int)))) (0:Int)))
def ZaV.wp(N:Nat)(x0:List Zc)(x1:Int)(x2:ByteArray→Option Bool)(Q:Bool×Int→(ByteArray→Option Bool)→Prop):Prop:=let v2:=ZaC.fn (x0,(x1,()));let v3:=ZY.fn (x0,(x1,(v2,())));cond (x1 == (0:Int)) (Q (true,(0:Int)) x2) (Zq.pre (x0,())∧cond (Option.isSome (x2 (Zq.fn (x0,())))) (Q ((Option.getD (x2 (Zq.fn (x0,()))) false),(0:Int)) x2) (ZaC.pre (x0,(x1,()))∧(ZY.pre (x0,(x1,(v2,())))∧cond (v3.2 != (0:Int)) (Q (false,v3.2) x2) (Lp (σ:=Int×(ByteArray→Option Bool)) (fun y5 R5=>let v4:=List.getD v3.1 (Int.toNat y5.1) ([]:List (Zc));cond (decide (y5.1 < ((List.length v3.1:Nat):Int))) (((0:Int)≤y5.1∧y5.1 < ((List.length v3.1:Nat):Int))∧(Zm IntKind.i64 (x1 - (1:Int))∧(Zeu N (v4,(x1 - (1:Int))) y5.2∧∀ b7:Bool×Int,∀ b8:(ByteArray→Option Bool),(ZdE (v4,(x1 - (1:Int))) y5.2 b7 b8→cond (b7.2 != (0:Int)) (Q (false,b7.2) b8) (cond b7.1 (Q (true,(0:Int)) (ZdP b8 (Zq.fn (x0,())) true)) (Zm IntKind.i64 (y5.1+(1:Int))∧R5 ((y5.1+(1:Int)),b8))))))) (Q (false,(0:Int)) (ZdP y5.2 (Zq.fn (x0,())) false))) ((0:Int),x2)))))
def Za2.wp(x0:Int×(List (List Zc)))(Q:Bool×Int→Prop):Prop:=let v0:=List.length (((ZH.fn (x0,())).1).2);cond (!(Zao.fn (x0,()))) (Q (false,(1:Int))) (cond ((ZH.fn (x0,())).2 != (0:Int)) (Q (false,(ZH.fn (x0,())).2)) (Lp (σ:=Int×(ByteArray→Option Bool)) (fun y2 R2=>let v1:=List.getD (((ZH.fn (x0,())).1).2) (Int.toNat y2.1) ([]:List (Zc));cond (decide (y2.1 < ((v0:Nat):Int))) (((0:Int)≤y2.1∧y2.1 < ((v0:Nat):Int))∧(ZkA (v1,x0.1) y2.2∧∀ b4:Bool×Int,∀ b5:(ByteArray→Option Bool),(ZdE (v1,x0.1) y2.2 b4 b5→(((b4.2 != (0:Int))=false→(!(b4.2 != (0:Int)))=true)∧cond ((b4.2 != (0:Int))||b4.1) (Q (false,b4.2)) (Zm IntKind.i64 (y2.1+(1:Int))∧R2 ((y2.1+(1:Int)),b5)))))) (Q (true,(0:Int)))) ((0:Int),fun (a2:ByteArray)=>(none:Option Bool))))
def ZbQ.wp(x0:Int)(x1:List Int)(Q:Zc→Prop):Prop:=Q ((0:Int),((0:Int),(x1,x0)))
def Zaw.wp(x0:Int)(x1:Int)(Q:(List Zc)→Prop):Prop:=Q ([((2:Int),(x0,([(1:Int)],x1)))])
def ZF.wp(x0:Int)(x1:Int)(x2:Int)(x3:List (Int×(List (List Zc))))(Q:Bool→Prop):Prop:=cond (!(Z2.fn (x0,(x1,(x3,()))))) (Q false) (Lp (σ:=Int) (fun y5 R5=>let v1:=List.getD x3 (Int.toNat y5) ((0:Int),([]:List (List (Zc))));let v7:=ZJ.fn (v1,());cond (decide (y5 < ((List.length x3:Nat):Int))) (((0:Int)≤y5∧y5 < ((List.length x3:Nat):Int))∧Lp (σ:=Int×Int) (fun y7 R7=>cond (decide (y7.1 < ((List.length v1.2:Nat):Int))) (((0:Int)≤y7.1∧y7.1 < ((List.length v1.2:Nat):Int))∧(Zm IntKind.i64 (y7.1+(1:Int))∧R7 ((y7.1+(1:Int)),(Max.max y7.2 ((List.length (List.getD v1.2 (Int.toNat y7.1) ([]:List (Zc))):Nat):Int))))) ((decide (x2 < v1.1)=true→(decide (x2 < v1.1)=true∧True))∧((decide (x2 < v1.1)=true→(decide (x2 < v1.1)=true∧True))∧((decide (x2 < v1.1)=true→decide (x2 < v1.1)=true)∧(((decide (x2 < v1.1)&&decide (v1.1≤(12:Int)))=true→((decide (x2 < v1.1)&&decide (v1.1≤(12:Int)))=true∧True))∧(((decide (x2 < v1.1)&&decide (v1.1≤(12:Int)))=true→(decide (x2 < v1.1)&&decide (v1.1≤(12:Int)))=true)∧cond ((decide (x2 < v1.1)&&decide (v1.1≤(12:Int)))&&decide ((1:Int) < y7.2)) (Q false) (Lp (σ:=Int) (fun y9 R9=>let v4:=List.getD v1.2 (Int.toNat y9) ([]:List (Zc));cond (decide (y9 < ((List.length v1.2:Nat):Int))) (((0:Int)≤y9∧y9 < ((List.length v1.2:Nat):Int))∧Lp (σ:=Int) (fun y11 R11=>let v5:=List.getD v4 (Int.toNat y11) Za;cond (decide (y11 < ((List.length v4:Nat):Int))) (((0:Int)≤y11∧y11 < ((List.length v4:Nat):Int))∧Lp (σ:=Int) (fun y13 R13=>let v6:=List.getD v5.2.2.1 (Int.toNat y13) (0:Int);cond (decide (y13 < ((List.length v5.2.2.1:Nat):Int))) (((0:Int)≤y13∧y13 < ((List.length v5.2.2.1:Nat):Int))∧(((!(decide ((6:Int) < v6)))=true→((!(decide ((6:Int) < v6)))=true∧True))∧((decide ((6:Int) < v6)=false→(!(decide ((6:Int) < v6)))=true)∧(((decide ((6:Int) < v6)||decide (v6 < (-(6:Int))))=true→((decide ((6:Int) < v6)||decide (v6 < (-(6:Int))))=true∧True))∧(((decide ((6:Int) < v6)||decide (v6 < (-(6:Int))))=true→(decide ((6:Int) < v6)||decide (v6 < (-(6:Int))))=true)∧cond ((decide ((6:Int) < v6)||decide (v6 < (-(6:Int))))&&v7) (Q false) (Zm IntKind.i64 (y13+(1:Int))∧R13 (y13+(1:Int)))))))) ((decide ((12:Int) < v5.2.1)=true→(decide ((12:Int) < v5.2.1)=true∧True))∧((decide ((12:Int) < v5.2.1)=true→decide ((12:Int) < v5.2.1)=true)∧cond (decide ((12:Int) < v5.2.1)&&v7) (Q false) (Zm IntKind.i64 (y11+(1:Int))∧R11 (y11+(1:Int)))))) (0:Int)) (Zm IntKind.i64 (y9+(1:Int))∧R9 (y9+(1:Int)))) (0:Int)) (Zm IntKind.i64 (y5+(1:Int))∧R5 (y5+(1:Int)))) (0:Int)))))))) ((0:Int),(0:Int))) (Q true)) (0:Int))
def Zas.wp(x0:Int×(List (List Zc)))(x1:Int×(List (List Zc)))(Q:Bool×Int→Prop):Prop:=let v0:=ZbI.fn (x0,(x1,()));cond (v0.2 != (0:Int)) (Q (false,v0.2)) (Q (Za2.fn (v0.1,())))
def Zav.wp(x0:Int×(List (List Zc)))(x1:Int×(List (List Zc)))(Q:Bool×Int→Prop):Prop:=let v0:=Zba.fn (x0,(x1,()));cond (v0.2 != (0:Int)) (Q (false,v0.2)) (Q (Zbc.fn (v0.1,())))
def ZbH.wp(x0:Int×(List (List Zc)))(x1:Int×(List (List Zc)))(Q:Bool×Int→Prop):Prop:=let v0:=Zas.fn (x0,(x1,()));(((!(v0.2 != (0:Int)))=true→((!(v0.2 != (0:Int)))=true∧True))∧(((v0.2 != (0:Int))=false→(!(v0.2 != (0:Int)))=true)∧cond ((v0.2 != (0:Int))||(!v0.1)) (Q (false,v0.2)) (Q (Zas.fn (x1,(x0,()))))))
def Za0.wp(x0:Int×(List (List Zc)))(x1:Int×(List (List Zc)))(Q:Bool×Int→Prop):Prop:=let v0:=Zav.fn (x0,(x1,()));(((!(!v0.1))=true→((!(!v0.1))=true∧True))∧(((!v0.1)=false→(!(!v0.1))=true)∧cond ((!v0.1)||(v0.2 != (0:Int))) (Q (false,v0.2)) (Q (Zav.fn (x1,(x0,()))))))
def law05_ElimWithin.wp(x0:Int×(List (List Zc)))(x1:Int×(List (List Zc)))(Q:Bool→Prop):Prop:=let v1:=Zas.fn (x0,(x1,()));let v2:=Zav.fn (x0,(x1,()));let v3:=ZbH.fn (x0,(x1,()));let v4:=Za0.fn (x0,(x1,()));cond (!(ZF.fn ((4:Int),((4:Int),((3:Int),([x0,x1],())))))) (Q (ZC.fn ())) (((v1.1 == v2.1)=true→((v1.1 == v2.1)=true∧((v1.1 == v2.1)=true∧True)))∧(((v1.1 == v2.1)=true→(v1.1 == v2.1)=true)∧((((v1.1 == v2.1)&&(v1.2 == v2.2))=true→(((v1.1 == v2.1)&&(v1.2 == v2.2))=true∧(((v1.1 == v2.1)&&(v1.2 == v2.2))=true∧True)))∧((((v1.1 == v2.1)&&(v1.2 == v2.2))=true→((v1.1 == v2.1)&&(v1.2 == v2.2))=true)∧(((((v1.1 == v2.1)&&(v1.2 == v2.2))&&(v3.1 == v4.1))=true→((((v1.1 == v2.1)&&(v1.2 == v2.2))&&(v3.1 == v4.1))=true∧((((v1.1 == v2.1)&&(v1.2 == v2.2))&&(v3.1 == v4.1))=true∧True)))∧(((((v1.1 == v2.1)&&(v1.2 == v2.2))&&(v3.1 == v4.1))=true→(((v1.1 == v2.1)&&(v1.2 == v2.2))&&(v3.1 == v4.1))=true)∧((((((v1.1 == v2.1)&&(v1.2 == v2.2))&&(v3.1 == v4.1))&&(v3.2 == v4.2))=true→((((v1.1 == v2.1)&&(v1.2 == v2.2))&&(v3.1 == v4.1))&&(v3.2 == v4.2))=true)∧Q (((((v1.1 == v2.1)&&(v1.2 == v2.2))&&(v3.1 == v4.1))&&(v3.2 == v4.2))&&ZC.fn ()))))))))
theorem Zok(p:List Zc)(n v:Int):(ZT p n v).2=0∨(ZT p n v).2=3:=by
 unfold ZT
 rcases Z8 (Zc9 p n.toNat v.toNat) with e | ⟨l,e⟩
 ·rw[e];exact .inr rfl
 ·simp only[e]
  unfold ZeH
  rcases Z8 (ZdX l) with e | ⟨l,e⟩
  ·rw[e];exact .inr rfl
  ·rw[e];exact .inl rfl
theorem ZlB{p:List Zc}{n v:Int}(h:¬ (ZT p n v).2=0):(ZT p n v).2=3:=(Zok p n v).resolve_left h
def Zfi(n v:Int)(all:List (List Zc))(p:List Zc):Option (List (List Zc)):=if (ZT p n v).2≠0 then none else some (all++(ZT p n v).1)
theorem Zk3{n v:Int}(hv0:0≤v)(hv:v < n):∀ {l a b:List (List Zc)},(∀ q∈l,pieceN q n)→l.foldlM (Zfi n v) a=some b→(∀ q∈a,Zay q∧Zda q (n.toNat - 1))→b.length≤a.length+400*l.length∧∀ q∈b,Zay q∧Zda q (n.toNat - 1)
 | [],a,b,_,h,ha=>by cases h;exact⟨by simp,ha⟩
 | p::l,a,b,hl,h,ha=>by
   rw[List.foldlM_cons] at h
   obtain⟨o,h1,h2⟩:=Option.bind_eq_some_iff.1 h
   unfold Zfi at h1
   split at h1
   ·cases h1
   ·rename_i h0
    cases h1
    obtain⟨k1,_⟩:=Zd8 (hl p (by simp)) hv0 hv (by simpa using h0)
    obtain⟨j1,j2⟩:=Zk3 hv0 hv (fun q hq=>hl q (List.mem_cons_of_mem _ hq)) h2 (fun q hq=>by
     rcases List.mem_append.1 hq with hq | hq
     ·exact ha q hq
     ·exact⟨(k1.at hq).1.B,(k1.at hq).2⟩)
    refine⟨?_,j2⟩
    have:=k1.1.1
    simp only[List.length_append] at j1
    simp only[List.length_cons];omega
theorem Zp6(n v:Int)(l:List (List Zc)):ZlG n v l=l.foldlM (Zfi n v) []:=rfl
theorem ZiE{s:ZbZ}(h:(Zaa s).2=0):Zr s=true:=by
 cases hv:Zr s with
 | true=>rfl
 | false=>unfold Zaa at h;rw[if_pos hv] at h;cases h
theorem Ze2{s:ZbZ}(h:(Zaa s).2=0){q:List Zc}(hq:q∈(Zaa s).1.2):pieceN q s.1:=by
 have hb:=Zr.b (ZiE h)
 have:=(Zh6 h).pieceN (by omega) hq
 rwa [Int.toNat_of_nonneg hb.1] at this
theorem Zul {s : ZbZ} {v : Int} (hn : (Zaa s).2 = 0) (hv0 : 0 ≤ v) (hv : v < s.1) {body : Int × List (List Zc) → (Int × List (List Zc) → Prop) → Prop}
 (h:∀ (i:Nat) (t:List (List Zc)) (R:Int×List (List Zc)→Prop),(i:Int) < ((Zaa s).1.2.length:Int)→Zm .i64 ((i:Int)+1)→ZY.pre ((Zaa s).1.2.getD i [],s.1,v,()) →
  (Zjb s v=((0,[]),3)→(ZT ((Zaa s).1.2.getD i []) s.1 v).2≠0→(ZT ((Zaa s).1.2.getD i []) s.1 v).2=3→body ((i:Int),t) R) ∧
  ((ZT ((Zaa s).1.2.getD i []) s.1 v).2=0→t.length+(ZT ((Zaa s).1.2.getD i []) s.1 v).1.length≤4194304→R ((i:Int)+1,t++(ZT ((Zaa s).1.2.getD i []) s.1 v).1)→body ((i:Int),t) R))
 (h2:∀ (t:List (List Zc)) (R:Int×List (List Zc)→Prop),Zjb s v=ZfJ (s.1 - 1) (ZdX t)→t.length≤4194304→(∀ q∈t,Zay q∧Zda q (s.1.toNat - 1))→body (((Zaa s).1.2.length:Int),t) R):Lp body (0,[]):=by
 have hval:=ZiE hn
 have hE:Zjb s v=match ZlG s.1 v (Zaa s).1.2 with
  | none=>((0,[]),3)
  | some all=>ZfJ (s.1 - 1) (ZdX all):=by
  unfold Zjb
  rw[if_neg (by rw[hval];simp),if_neg (by omega),if_neg (by omega)]
  cases ZlG s.1 v (Zaa s).1.2<;>rfl
 have hlen:(Zaa s).1.2.length≤400:=(Zh6 hn).1.1
 have hall:∀ q∈(Zaa s).1.2,pieceN q s.1:=fun q hq=>Ze2 hn hq
 rw[Zp6] at hE
 refine Lp.foldO (Zaa s).1.2 [] (Zfi s.1 v) [] (by omega) (fun i t R hi hi' hf ht hs hno=>?_) (fun t R ht=>?_)
 ·have hq:=Zi (d:=[]) hi
  obtain⟨g1,g2⟩:=h i t R hi' hf ⟨hall _ hq,hv0,hv⟩
  have htk:=(Zk3 hv0 hv (fun q hq=>hall q (List.mem_of_mem_take hq)) ht (by simp)).1
  have:((Zaa s).1.2.take i).length≤400:=by rw[List.length_take];omega
  simp only[List.length_nil] at htk
  by_cases h0:(ZT ((Zaa s).1.2.getD i []) s.1 v).2=0
  ·have hl:=(Zd8 (hall _ hq) hv0 hv h0).1.1.1
   refine g2 h0 (by omega) (hs _ ?_)
   unfold Zfi
   rw[if_neg (by omega)]
  ·refine g1 ?_ h0 (ZlB h0)
   rw[hE,hno (by unfold Zfi;rw[if_pos h0])]
 ·obtain⟨k1,k2⟩:=Zk3 hv0 hv hall ht (by simp)
  simp only[List.length_nil] at k1
  exact h2 t R (by rw[hE,ht]) (by omega) k2
theorem Zbz.spec(s:ZbZ)(v:Int):Zbz.wp s v (fun r=>r=Zbz.fn (s,v,())):=by
 unfold Zbz.wp
 dsimp only
 rw[show Zbz.fn (s,v,())=Zjb s v from rfl,show Zao.fn (s,())=Zr s from rfl,show ZH.fn (s,())=Zaa s from rfl]
 cases hval:Zr s with
 | false =>
   simp only[Bool.not_false,cond_true]
   unfold Zjb;rw[if_pos hval]
 | true =>
   have hb:=Zr.b hval
   simp only[Bool.not_true,cond_false]
   refine⟨fun h=>⟨h,trivial⟩,fun h=>⟨h,h,trivial⟩,fun h=>by rw[h];rfl,?_⟩
   by_cases hr:v < 0∨s.1≤v
   ·rw[show (decide (v < 0)||decide (s.1≤v))=true by rw[← Bool.decide_or,decide_eq_true hr],cond_true]
    unfold Zjb;rw[if_neg (by rw[hval];simp),if_pos hr]
   ·rw[show (decide (v < 0)||decide (s.1≤v))=false by rw[← Bool.decide_or,decide_eq_false hr],cond_false]
    by_cases hn:(Zaa s).2=0
    ·rw[show ((Zaa s).2 != 0)=false by rw[hn];rfl,cond_false]
     refine Zul hn (v:=v) (by omega) (by omega) (fun i t R hi hf hp=>⟨fun h1 h2 h3=>?_,fun h1 h2 hR=>?_⟩) (fun t R ht htl htp=>?_)
     ·dsimp only
      rw[decide_eq_true hi,cond_true,Int.toNat_natCast]
      refine⟨⟨by omega,hi⟩,hp,?_⟩
      rw[show ZY.fn ((Zaa s).1.2.getD i [],s.1,v,())=ZT ((Zaa s).1.2.getD i []) s.1 v from rfl,bne_iff_ne.2 h2,cond_true,h3,h1]
     ·dsimp only
      rw[decide_eq_true hi,cond_true,Int.toNat_natCast]
      refine⟨⟨by omega,hi⟩,hp,?_⟩
      rw[show ZY.fn ((Zaa s).1.2.getD i [],s.1,v,())=ZT ((Zaa s).1.2.getD i []) s.1 v from rfl,h1,show ((0:Int) != 0)=false from rfl,cond_false]
      exact⟨⟨by omega,by omega⟩,hf,hR⟩
     ·dsimp only
      rw[decide_eq_false (Int.lt_irrefl _),cond_false]
      have hfits:Zm IntKind.i64 (s.1 - 1):=⟨by omega,by omega⟩
      refine Lp.tid t [] _ ZeG.nil (by simp) (by omega) (fun i out m R hi hi' hf hk hol h1 h2 h3=>?_) (fun out m R ht2 hk hol=>?_)
      ·dsimp only
       rw[decide_eq_true hi',cond_true,Int.toNat_natCast]
       have hres:=fun hn=>ht.trans (show ZfJ (s.1 - 1) (ZdX t)=((0,[]),3) by rw[show ZdX t=none from h3 hn];rfl)
       refine⟨⟨by omega,hi'⟩,Zes (htp _ (Zi hi)).1 hk hol (fun h4 hn=>?_) (fun hs=>⟨hf,h1 hs⟩) (fun hn=>?_) (fun hs=>⟨hf,h2 hs⟩)⟩
       ·simp only[Zb.fn,h4,show ((3:Int) != 0)=true from rfl,cond_true]
        rw[hres hn]
       ·rw[hres hn]
      ·dsimp only
       rw[decide_eq_false (Int.lt_irrefl _),cond_false]
       exact⟨hfits,by rw[ht,show ZdX t=some out from ht2];rfl⟩
    ·rw[bne_iff_ne.2 hn,cond_true]
     unfold Zjb;rw[if_neg (by rw[hval];simp),if_neg hr,if_pos hn]
theorem Zfu{f:List Zc→Bool×Int}{l:List (List Zc)}{i:Nat}(hi:i < l.length):ZdC f (l.drop i)=if (f (l.getD i [])).1=true∨(f (l.getD i [])).2≠0 then f (l.getD i []) else ZdC f (l.drop (i+1)):=by
 have:l.drop i=l.getD i []::l.drop (i+1):=by
  rw[List.getD_eq_getElem?_getD,List.getElem?_eq_getElem hi]
  simp
 rw[this];rfl
theorem Zg6(k:Nat)(p:List Zc):Zb0 (k+1) p=if (ZT p ((k+1:Nat):Int) (Zbb p ((k+1:Nat):Int))).2≠0 then (false,(ZT p ((k+1:Nat):Int) (Zbb p ((k+1:Nat):Int))).2) else ZdC (Zb0 k) (ZT p ((k+1:Nat):Int) (Zbb p ((k+1:Nat):Int))).1:=rfl
theorem pieceN.shadow{p:List Zc}{k:Nat}{v:Int}(h:pieceN p ((k+1:Nat):Int))(hv0:0≤v)(hv:v < ((k+1:Nat):Int))(h0:(ZT p ((k+1:Nat):Int) v).2=0){q:List Zc}(hq:q∈(ZT p ((k+1:Nat):Int) v).1):pieceN q (k:Int):=by
 have h1:=(Zd8 h hv0 hv h0).1
 have h2:(((k+1:Nat):Int)).toNat - 1=k:=by omega
 rw[h2] at h1
 exact h1.pieceN (by have:=h.2.2.2;omega) hq
theorem pieceN.nameOk{p:List Zc}{n:Int}(h:pieceN p n):nameOk p:=by
 obtain⟨h1,h2,h3,h4⟩:=h
 exact Zcb.name ⟨by omega,fun c hc=>(h2 c hc).1⟩
theorem Zs.spec(N:Nat)(p:List Zc)(n:Int)(hp:Zs.preN (N+1) (p,n,())):Zs.wp N p n (fun r=>r=Zs.fn (p,n,())):=by
 obtain⟨hp,hN⟩:pieceN p n∧n < ((N+1:Nat):Int):=hp
 unfold Zs.wp
 dsimp only
 rw[show Zs.fn (p,n,())=Zb0 n.toNat p from rfl,show Zac.fn (p,n,())=Zbb p n from rfl,show Zae.fn (p,n,Zbb p n,())=ZT p n (Zbb p n) from rfl]
 by_cases h0:n=0
 ·subst h0
  rw[show ((0:Int) == 0)=true from rfl,cond_true];rfl
 ·rw[beq_eq_false_iff_ne.2 h0,cond_false]
  obtain⟨k,rfl⟩:∃ k:Nat,n=((k+1:Nat):Int):=⟨(n - 1).toNat,by have:=hp.2.2.1;omega⟩
  obtain⟨c1,c2⟩:=Znn hp (by omega)
  refine⟨hp,⟨hp,c1,c2⟩,?_⟩
  rw[Int.toNat_natCast,Zg6]
  have hsp:(ZT p ((k+1:Nat):Int) (Zbb p ((k+1:Nat):Int))).2=0→∀ q∈(ZT p ((k+1:Nat):Int) (Zbb p ((k+1:Nat):Int))).1,pieceN q (k:Int):=fun h q hq=>hp.shadow c1 c2 h hq
  have hlen:(ZT p ((k+1:Nat):Int) (Zbb p ((k+1:Nat):Int))).2=0→(ZT p ((k+1:Nat):Int) (Zbb p ((k+1:Nat):Int))).1.length≤400:=fun h=>(Zd8 hp c1 c2 h).1.1.1
  obtain⟨sh,hsh⟩:∃ sh,ZT p ((k+1:Nat):Int) (Zbb p ((k+1:Nat):Int))=sh:=⟨_,rfl⟩
  rw[hsh] at hsp hlen ⊢
  have hk1:((k+1:Nat):Int) - 1=(k:Int):=by omega
  rw[hk1]
  by_cases he:sh.2=0
  ·rw[show (sh.2 != 0)=false by rw[he];rfl,cond_false,if_neg (fun h=>h he)]
   have hlen:=hlen he
   have hsp:=hsp he
   refine Lp.iter sh.1.length (fun i z=>z=(i:Int)∧ZdC (Zb0 k) sh.1=ZdC (Zb0 k) (sh.1.drop i)) ⟨rfl,rfl⟩ ?_
   rintro i z hi ⟨rfl,hz⟩ R hR
   by_cases e:i < sh.1.length
   ·have e':(i:Int) < ((sh.1.length:Nat):Int):=by omega
    rw[decide_eq_true e',cond_true,Int.toNat_natCast]
    have hq:=hsp _ (Zi (d:=[]) e)
    rw[Zfu e] at hz
    obtain⟨q,hqe⟩:∃ q,sh.1.getD i []=q:=⟨_,rfl⟩
    rw[hqe] at hq hz ⊢
    rw[show Zs.fn (q,(k:Int),())=Zb0 k q by show Zb0 (k:Int).toNat q=_;rw[Int.toNat_natCast]]
    obtain⟨r,hr⟩:∃ r,Zb0 k q=r:=⟨_,rfl⟩
    rw[hr] at hz ⊢
    refine⟨⟨by omega,e'⟩,⟨by have:=hp.2.2.2;omega,by have:=hp.2.2.2;omega⟩,⟨hq,by show (k:Int) < _;omega⟩,fun h=>⟨h,trivial⟩,fun h=>by rw[h];rfl,?_⟩
    by_cases hc:r.1=true∨r.2≠0
    ·rw[if_pos hc] at hz
     rw[show (r.1||(r.2 != 0))=true by rw[Bool.or_eq_true,bne_iff_ne];exact hc,cond_true]
     exact hz.symm
    ·rw[if_neg hc] at hz
     rw[show (r.1||(r.2 != 0))=false by
      rw[Bool.eq_false_iff,ne_eq,Bool.or_eq_true,bne_iff_ne];exact hc,cond_false]
     exact⟨⟨by omega,by omega⟩,hR e _ ⟨by omega,hz⟩⟩
   ·have:i=sh.1.length:=by omega
    subst this
    rw[decide_eq_false (Int.lt_irrefl _),cond_false,hz,List.drop_length]
    rfl
  ·rw[bne_iff_ne.2 he,cond_true,if_pos he]
theorem ZvN:ZdX [[]]=some [[]]:=by decide
theorem ZnT(n v:Int):ZT [] n v=([[]],0):=by
 unfold ZT
 have:Zc9 [] n.toNat v.toNat=some [[]]:=by
  unfold Zc9
  rw[show eqI v.toNat []=-1 from rfl,if_neg (show ¬ (0:Int)≤-1 by decide),if_pos ⟨rfl,.inl rfl⟩]
  rfl
 rw[this]
 show ZeH [[]]=_
 unfold ZeH
 rw[ZvN]
theorem Znx:∀ n,Zb0 n []=(true,0)
 | 0=>rfl
 | n+1=>by
   rw[Zg6,ZnT]
   rw[if_neg (fun h=>h rfl)]
   show (if (Zb0 n []).1=true∨(Zb0 n []).2≠0 then Zb0 n [] else ZdC (Zb0 n) [])=_
   rw[Znx n]
   rfl
theorem ZsZ.put{m:ByteArray→Option Bool}(h:ZsZ m){p:List Zc}{n:Int}{b:Bool}(hp:pieceN p n)(hn:1≤n)(hb:Zb0 n.toNat p=(b,0)):ZsZ (ZdP m (Zce (ZcN p)) b):=by
 intro q k c hq hk h1
 by_cases e:q=p
 ·subst e
  have:some b=some c:=by
   rw[← hq];unfold ZdP;rw[if_pos rfl]
  have hbc:b=c:=by injection this
  subst hbc
  cases q with
  | nil =>
    rw[Znx] at hb ⊢
    exact hb
  | cons a l =>
    have h2:=(hp.2.1 a (by simp)).2
    have h3:=(hk.2.1 a (by simp)).2
    rw[← h3,h2]
    exact hb
 ·refine h q k c ?_ hk h1
  rw[← hq]
  unfold ZdP
  rw[if_neg]
  intro h;exact e (ZpP.1 h)
theorem ZsZ.nil:ZsZ (fun _=>none):=fun p n b h=>by cases h
theorem ZaV.spec(N:Nat)(p:List Zc)(n:Int)(m:ByteArray→Option Bool)(hp:Zeu (N+1) (p,n) m):ZaV.wp N p n m (fun r m'=>ZdE (p,n) m r m'):=by
 obtain⟨⟨hp,hm⟩,hN⟩:=hp
 simp only at hp hN
 unfold ZaV.wp
 dsimp only
 rw[show ZaC.fn (p,n,())=Zbb p n from rfl,show ZY.fn (p,n,Zbb p n,())=ZT p n (Zbb p n) from rfl,show Zq.fn (p,())=Zce (ZcN p) from rfl]
 have ok0:∀ (r:Bool×Int) (m':ByteArray→Option Bool),ZsZ m'→Zb0 n.toNat p=r→r.2=0→ZdE (p,n) m r m':=by
  intro r m' h h1 h2
  refine⟨?_,h⟩
  simp only
  rw[h1,if_neg (fun h=>h h2)]
 by_cases h0:n=0
 ·subst h0
  rw[show ((0:Int) == 0)=true from rfl,cond_true]
  exact ok0 _ _ hm rfl rfl
 ·rw[beq_eq_false_iff_ne.2 h0,cond_false]
  obtain⟨k,rfl⟩:∃ k:Nat,n=((k+1:Nat):Int):=⟨(n - 1).toNat,by have:=hp.2.2.1;omega⟩
  obtain⟨c1,c2⟩:=Znn hp (by omega)
  refine⟨hp.nameOk,?_⟩
  rcases Z8 (m (Zce (ZcN p))) with hmn | ⟨b,hmb⟩
  ·rw[hmn,show (none:Option Bool).isSome=false from rfl,cond_false]
   refine⟨hp,⟨hp,c1,c2⟩,?_⟩
   have hsN:=Zg6 k p
   have hsp:(ZT p ((k+1:Nat):Int) (Zbb p ((k+1:Nat):Int))).2=0→∀ q∈(ZT p ((k+1:Nat):Int) (Zbb p ((k+1:Nat):Int))).1,pieceN q (k:Int):=fun h q hq=>hp.shadow c1 c2 h hq
   have hlen:(ZT p ((k+1:Nat):Int) (Zbb p ((k+1:Nat):Int))).2=0→(ZT p ((k+1:Nat):Int) (Zbb p ((k+1:Nat):Int))).1.length≤400:=fun h=>(Zd8 hp c1 c2 h).1.1.1
   obtain⟨sh,hsh⟩:∃ sh,ZT p ((k+1:Nat):Int) (Zbb p ((k+1:Nat):Int))=sh:=⟨_,rfl⟩
   rw[hsh] at hsp hlen hsN ⊢
   have hk1:((k+1:Nat):Int) - 1=(k:Int):=by omega
   rw[hk1]
   rw[Int.toNat_natCast] at ok0
   by_cases he:sh.2=0
   ·rw[show (sh.2 != 0)=false by rw[he];rfl,cond_false]
    rw[if_neg (fun h=>h he)] at hsN
    have hlen:=hlen he
    have hsp:=hsp he
    refine Lp.iter sh.1.length (fun i z=>z.1=(i:Int)∧ZdC (Zb0 k) sh.1=ZdC (Zb0 k) (sh.1.drop i)∧ZsZ z.2) ⟨rfl,rfl,hm⟩ ?_
    rintro i ⟨z,mz⟩ hi ⟨hzi,hz,hmz⟩ R hR
    simp only at hzi hz hmz
    subst hzi
    dsimp only
    by_cases e:i < sh.1.length
    ·have e':(i:Int) < ((sh.1.length:Nat):Int):=by omega
     rw[decide_eq_true e',cond_true,Int.toNat_natCast]
     have hq:=hsp _ (Zi (d:=[]) e)
     rw[Zfu e] at hz
     obtain⟨q,hqe⟩:∃ q,sh.1.getD i []=q:=⟨_,rfl⟩
     rw[hqe] at hq hz ⊢
     refine⟨⟨by omega,e'⟩,⟨by have:=hp.2.2.2;omega,by have:=hp.2.2.2;omega⟩,⟨⟨hq,hmz⟩,by show (k:Int) < _;omega⟩,fun r mr hpost=>?_⟩
     obtain⟨hr,hmr⟩:=hpost
     simp only[Int.toNat_natCast] at hr
     by_cases hre:(Zb0 k q).2=0
     ·rw[if_neg (fun h=>h hre)] at hr
      rw[← hr] at hz hre
      rw[show (r.2 != 0)=false by rw[hre];rfl,cond_false]
      by_cases hr1:r.1=true
      ·rw[if_pos (.inl hr1)] at hz
       rw[hr1,cond_true]
       have hs:Zb0 (k+1) p=(true,0):=by rw[hsN,hz,← hr1,← hre]
       exact ok0 _ _ (hmr.put hp (by omega) (by rw[Int.toNat_natCast];exact hs)) hs rfl
      ·rw[if_neg (fun h=>h.elim hr1 (fun h=>h hre))] at hz
       rw[show r.1=false by simpa using hr1,cond_false]
       exact⟨⟨by omega,by omega⟩,hR e _ ⟨by simp,hz,hmr⟩⟩
     ·rw[if_pos hre] at hr
      rw[if_pos (.inr hre)] at hz
      rw[hr,bne_iff_ne.2 hre,cond_true]
      refine⟨?_,hmr⟩
      simp only[Int.toNat_natCast]
      rw[hsN,hz,if_pos hre]
    ·have:i=sh.1.length:=by omega
     subst this
     rw[decide_eq_false (Int.lt_irrefl _),cond_false]
     have hs:Zb0 (k+1) p=(false,0):=by rw[hsN,hz,List.drop_length];rfl
     exact ok0 _ _ (hmz.put hp (by omega) (by rw[Int.toNat_natCast];exact hs)) hs rfl
   ·rw[bne_iff_ne.2 he,cond_true]
    rw[if_pos he] at hsN
    refine⟨?_,hm⟩
    simp only[Int.toNat_natCast]
    rw[hsN,if_pos he]
  ·rw[hmb,show (some b).isSome=true from rfl,cond_true]
   have:=hm p _ b hmb hp (by omega)
   exact ok0 _ _ hm this rfl
theorem Za2.spec(s:ZbZ):Za2.wp s (fun r=>r=Za2.fn (s,())):=by
 unfold Za2.wp
 dsimp only
 rw[show Za2.fn (s,())=Zdx s from rfl,show Zao.fn (s,())=Zr s from rfl,show ZH.fn (s,())=Zaa s from rfl]
 cases hval:Zr s with
 | false =>
   simp only[Bool.not_false,cond_true]
   unfold Zdx;rw[if_pos hval]
 | true =>
   simp only[Bool.not_true,cond_false]
   by_cases hn:(Zaa s).2=0
   ·rw[show ((Zaa s).2 != 0)=false by rw[hn];rfl,cond_false]
    have hE:Zdx s=if (ZdC (Zb0 s.1.toNat) (Zaa s).1.2).1=true∨(ZdC (Zb0 s.1.toNat) (Zaa s).1.2).2≠0 then (false,(ZdC (Zb0 s.1.toNat) (Zaa s).1.2).2) else (true,0):=by
     unfold Zdx
     rw[if_neg (by rw[hval];simp),if_neg (fun h=>h hn)]
    have hlen:(Zaa s).1.2.length≤400:=(Zh6 hn).1.1
    have hall:∀ q∈(Zaa s).1.2,pieceN q s.1:=fun q hq=>Ze2 hn hq
    obtain⟨l,hl⟩:∃ l,(Zaa s).1.2=l:=⟨_,rfl⟩
    rw[hl] at hE hlen hall ⊢
    refine Lp.iter l.length (fun i z=>z.1=(i:Int)∧ZdC (Zb0 s.1.toNat) l=ZdC (Zb0 s.1.toNat) (l.drop i)∧ZsZ z.2) ⟨rfl,rfl,ZsZ.nil⟩ ?_
    rintro i ⟨z,mz⟩ hi ⟨hzi,hz,hmz⟩ R hR
    simp only at hzi hz hmz
    subst hzi
    dsimp only
    by_cases e:i < l.length
    ·have e':(i:Int) < ((l.length:Nat):Int):=by omega
     rw[decide_eq_true e',cond_true,Int.toNat_natCast]
     have hq:=hall _ (Zi (d:=[]) e)
     rw[Zfu e] at hz
     obtain⟨q,hqe⟩:∃ q,l.getD i []=q:=⟨_,rfl⟩
     rw[hqe] at hq hz ⊢
     refine⟨⟨by omega,e'⟩,⟨hq,hmz⟩,fun r mr hpost=>?_⟩
     obtain⟨hr,hmr⟩:=hpost
     simp only at hr
     refine⟨fun h=>by rw[h];rfl,?_⟩
     by_cases hre:(Zb0 s.1.toNat q).2=0
     ·rw[if_neg (fun h=>h hre)] at hr
      rw[← hr] at hz hre
      rw[show (r.2 != 0)=false by rw[hre];rfl,Bool.false_or]
      by_cases hr1:r.1=true
      ·rw[if_pos (.inl hr1)] at hz
       rw[hr1,cond_true,hE,if_pos (.inl (by rw[hz];exact hr1)),hz]
      ·rw[if_neg (fun h=>h.elim hr1 (fun h=>h hre))] at hz
       rw[show r.1=false by simpa using hr1,cond_false]
       exact⟨⟨by omega,by omega⟩,hR e _ ⟨by simp,hz,hmr⟩⟩
     ·rw[if_pos hre] at hr
      rw[if_pos (.inr hre)] at hz
      rw[hr,bne_iff_ne.2 hre,Bool.true_or,cond_true,hE,if_pos (.inr (by rw[hz];exact hre)),hz]
    ·have:i=l.length:=by omega
     subst this
     rw[List.drop_length] at hz
     rw[decide_eq_false (Int.lt_irrefl _),cond_false,hE,hz,if_neg]
     rintro (h | h)
     ·cases h
     ·exact h rfl
   ·rw[bne_iff_ne.2 hn,cond_true]
    unfold Zdx;rw[if_neg (by rw[hval];simp),if_pos hn]
theorem Zbc.spec(s:ZbZ):Zbc.wp s (fun r=>r=Zbc.fn (s,())):=by
 unfold Zbc.wp
 dsimp only
 rw[show Zbc.fn (s,())=Zdx s from rfl,show ZJ.fn (s,())=Zr s from rfl,show Zam.fn (s,())=Zaa s from rfl]
 cases hval:Zr s with
 | false =>
   simp only[Bool.not_false,cond_true]
   unfold Zdx;rw[if_pos hval]
 | true =>
   simp only[Bool.not_true,cond_false]
   by_cases hn:(Zaa s).2=0
   ·rw[show ((Zaa s).2 != 0)=false by rw[hn];rfl,cond_false]
    have hE:Zdx s=if (ZdC (Zb0 s.1.toNat) (Zaa s).1.2).1=true∨(ZdC (Zb0 s.1.toNat) (Zaa s).1.2).2≠0 then (false,(ZdC (Zb0 s.1.toNat) (Zaa s).1.2).2) else (true,0):=by
     unfold Zdx
     rw[if_neg (by rw[hval];simp),if_neg (fun h=>h hn)]
    have hlen:(Zaa s).1.2.length≤400:=(Zh6 hn).1.1
    have hall:∀ q∈(Zaa s).1.2,pieceN q s.1:=fun q hq=>Ze2 hn hq
    obtain⟨l,hl⟩:∃ l,(Zaa s).1.2=l:=⟨_,rfl⟩
    rw[hl] at hE hlen hall ⊢
    refine Lp.iter l.length (fun i z=>z=(i:Int)∧ZdC (Zb0 s.1.toNat) l=ZdC (Zb0 s.1.toNat) (l.drop i)) ⟨rfl,rfl⟩ ?_
    rintro i z hi ⟨rfl,hz⟩ R hR
    by_cases e:i < l.length
    ·have e':(i:Int) < ((l.length:Nat):Int):=by omega
     rw[decide_eq_true e',cond_true,Int.toNat_natCast]
     have hq:=hall _ (Zi (d:=[]) e)
     rw[Zfu e] at hz
     obtain⟨q,hqe⟩:∃ q,l.getD i []=q:=⟨_,rfl⟩
     rw[hqe] at hq hz ⊢
     rw[show Zs.fn (q,s.1,())=Zb0 s.1.toNat q from rfl]
     obtain⟨r,hr⟩:∃ r,Zb0 s.1.toNat q=r:=⟨_,rfl⟩
     rw[hr] at hz ⊢
     refine⟨⟨by omega,e'⟩,hq,fun h=>⟨h,trivial⟩,fun h=>by rw[h];rfl,?_⟩
     by_cases hc:r.1=true∨r.2≠0
     ·rw[if_pos hc] at hz
      rw[show (r.1||(r.2 != 0))=true by rw[Bool.or_eq_true,bne_iff_ne];exact hc,cond_true,hE,hz,if_pos hc]
     ·rw[if_neg hc] at hz
      rw[show (r.1||(r.2 != 0))=false by
       rw[Bool.eq_false_iff,ne_eq,Bool.or_eq_true,bne_iff_ne];exact hc,cond_false]
      exact⟨⟨by omega,by omega⟩,hR e _ ⟨by omega,hz⟩⟩
    ·have:i=l.length:=by omega
     subst this
     rw[List.drop_length] at hz
     rw[decide_eq_false (Int.lt_irrefl _),cond_false,hE,hz,if_neg]
     rintro (h | h)
     ·cases h
     ·exact h rfl
   ·rw[bne_iff_ne.2 hn,cond_true]
    unfold Zdx;rw[if_neg (by rw[hval];simp),if_pos hn]
def ZC.wp (Q:Bool→Prop):Prop:=let v2:=Zbz.fn (((2:Int),[([((1:Int),((0:Int),(([(-(1:Int)),(2:Int)]),(0:Int))))])]),((1:Int),()));let v4:=Za4.fn (v2.1,(((1:Int),[(Zaw.fn ((2:Int),((0:Int),())))]),()));let v9:=Zbz.fn (((2:Int),[[(ZbQ.fn ((0:Int),(([(-(1:Int)),(3:Int)]),()))),(ZbQ.fn ((1:Int),(([(1:Int),(-(3:Int))]),())))]]),((1:Int),()));let v12:=Za4.fn (v9.1,(((1:Int),[(Zaw.fn ((3:Int),((0:Int),()))),(Zaw.fn ((3:Int),((1:Int),())))]),()));let v14:=Za2.fn (((1:Int),[[(ZbQ.fn ((0:Int),([(1:Int)],())))]]),());let v17:=Za2.fn (((1:Int),[[(ZbQ.fn ((-(1:Int)),([(2:Int)],()))),(ZbQ.fn ((1:Int),([(-(2:Int))],())))]]),());(((v2.2 == (0:Int))=true→((v2.2 == (0:Int))=true∧True))∧(((v2.2 == (0:Int))=true→((v2.2 == (0:Int))=true∧True))∧(((v2.2 == (0:Int))=true→((v2.2 == (0:Int))=true∧True))∧(((v2.2 == (0:Int))=true→((v2.2 == (0:Int))=true∧((v2.2 == (0:Int))=true∧True)))∧(((v2.2 == (0:Int))=true→(v2.2 == (0:Int))=true)∧((((v2.2 == (0:Int))&&v4)=true→(((v2.2 == (0:Int))&&v4)=true∧True))∧((((v2.2 == (0:Int))&&v4)=true→((v2.2 == (0:Int))&&v4)=true)∧(((((v2.2 == (0:Int))&&v4)&&(v9.2 == (0:Int)))=true→((((v2.2 == (0:Int))&&v4)&&(v9.2 == (0:Int)))=true∧True))∧(((((v2.2 == (0:Int))&&v4)&&(v9.2 == (0:Int)))=true→((((v2.2 == (0:Int))&&v4)&&(v9.2 == (0:Int)))=true∧True))∧(((((v2.2 == (0:Int))&&v4)&&(v9.2 == (0:Int)))=true→((((v2.2 == (0:Int))&&v4)&&(v9.2 == (0:Int)))=true∧((((v2.2 == (0:Int))&&v4)&&(v9.2 == (0:Int)))=true∧True)))∧(((((v2.2 == (0:Int))&&v4)&&(v9.2 == (0:Int)))=true→((((v2.2 == (0:Int))&&v4)&&(v9.2 == (0:Int)))=true∧True))∧(((((v2.2 == (0:Int))&&v4)&&(v9.2 == (0:Int)))=true→((((v2.2 == (0:Int))&&v4)&&(v9.2 == (0:Int)))=true∧((((v2.2 == (0:Int))&&v4)&&(v9.2 == (0:Int)))=true∧True)))∧(((((v2.2 == (0:Int))&&v4)&&(v9.2 == (0:Int)))=true→(((v2.2 == (0:Int))&&v4)&&(v9.2 == (0:Int)))=true)∧((((((v2.2 == (0:Int))&&v4)&&(v9.2 == (0:Int)))&&v12)=true→(((((v2.2 == (0:Int))&&v4)&&(v9.2 == (0:Int)))&&v12)=true∧True))∧((((((v2.2 == (0:Int))&&v4)&&(v9.2 == (0:Int)))&&v12)=true→((((v2.2 == (0:Int))&&v4)&&(v9.2 == (0:Int)))&&v12)=true)∧(((((((v2.2 == (0:Int))&&v4)&&(v9.2 == (0:Int)))&&v12)&&(!v14.1))=true→((((((v2.2 == (0:Int))&&v4)&&(v9.2 == (0:Int)))&&v12)&&(!v14.1))=true∧True))∧(((((((v2.2 == (0:Int))&&v4)&&(v9.2 == (0:Int)))&&v12)&&(!v14.1))=true→(((((v2.2 == (0:Int))&&v4)&&(v9.2 == (0:Int)))&&v12)&&(!v14.1))=true)∧((((((((v2.2 == (0:Int))&&v4)&&(v9.2 == (0:Int)))&&v12)&&(!v14.1))&&(v14.2 == (0:Int)))=true→((((((v2.2 == (0:Int))&&v4)&&(v9.2 == (0:Int)))&&v12)&&(!v14.1))&&(v14.2 == (0:Int)))=true)∧(((((((((v2.2 == (0:Int))&&v4)&&(v9.2 == (0:Int)))&&v12)&&(!v14.1))&&(v14.2 == (0:Int)))&&v17.1)=true→((((((((v2.2 == (0:Int))&&v4)&&(v9.2 == (0:Int)))&&v12)&&(!v14.1))&&(v14.2 == (0:Int)))&&v17.1)=true∧True))∧(((((((((v2.2 == (0:Int))&&v4)&&(v9.2 == (0:Int)))&&v12)&&(!v14.1))&&(v14.2 == (0:Int)))&&v17.1)=true→(((((((v2.2 == (0:Int))&&v4)&&(v9.2 == (0:Int)))&&v12)&&(!v14.1))&&(v14.2 == (0:Int)))&&v17.1)=true)∧Q ((((((((v2.2 == (0:Int))&&v4)&&(v9.2 == (0:Int)))&&v12)&&(!v14.1))&&(v14.2 == (0:Int)))&&v17.1)&&(v17.2 == (0:Int)))))))))))))))))))))))
theorem Zvi:Zjb (2,[[(1,0,[-1,2],0)]]) 1=((1,[[(2,2,[1],0)]]),0):=by kernel_rfl
theorem Zvv:Zjb (2,[[(0,0,[-1,3],0),(0,0,[1,-3],1)]]) 1=((1,[[(2,3,[1],0)],[(2,3,[1],1)]]),0):=by kernel_rfl
theorem Zvc:Zdx (1,[[(0,0,[1],0)]])=(false,0):=by kernel_rfl
theorem Zu8:Zdx (1,[[(0,0,[2],-1),(0,0,[-2],1)]])=(true,0):=by kernel_rfl
theorem ZC.spec:ZC.wp (fun r=>r=ZC.fn ()):=by
 simp only[ZC.wp,Zbz.fn,Za2.fn,ZbQ.fn,Zaw.fn,Za4.fn,Zvi,Zvv,Zvc,Zu8,ZC.fn]
 simp
theorem ZbQ.spec(k:Int)(l:List Int):ZbQ.wp k l (fun r=>r=ZbQ.fn (k,l,())):=rfl
theorem Zaw.spec(m k:Int):Zaw.wp m k (fun r=>r=Zaw.fn (m,k,())):=rfl
theorem Zas.spec(a b:ZbZ):Zas.wp a b (fun r=>r=Zas.fn (a,b,())):=by
 unfold Zas.wp
 dsimp only
 rw[show ZbI.fn (a,b,())=ZcE a b from rfl,show Zas.fn (a,b,())=ZbK a b from rfl]
 unfold ZbK
 by_cases h:(ZcE a b).2=0
 ·rw[show ((ZcE a b).2 != 0)=false by rw[h];rfl,cond_false,if_neg (fun h'=>h' h)]
 ·rw[bne_iff_ne.2 h,cond_true,if_pos h]
theorem Zav.spec(a b:ZbZ):Zav.wp a b (fun r=>r=Zav.fn (a,b,())):=Zas.spec a b
theorem ZbH.spec(a b:ZbZ):ZbH.wp a b (fun r=>r=ZbH.fn (a,b,())):=by
 unfold ZbH.wp
 dsimp only
 rw[show Zas.fn (a,b,())=ZbK a b from rfl,show Zas.fn (b,a,())=ZbK b a from rfl,show ZbH.fn (a,b,())=ZpZ a b from rfl]
 refine⟨fun h=>⟨h,trivial⟩,fun h=>by rw[h];rfl,?_⟩
 unfold ZpZ
 by_cases h:(ZbK a b).2≠0∨(ZbK a b).1=false
 ·rw[show (((ZbK a b).2 != 0)||!(ZbK a b).1)=true by simpa using h,cond_true,if_pos h]
 ·rw[show (((ZbK a b).2 != 0)||!(ZbK a b).1)=false by simpa using h,cond_false,if_neg h]
theorem Za0.spec(a b:ZbZ):Za0.wp a b (fun r=>r=Za0.fn (a,b,())):=by
 unfold Za0.wp
 dsimp only
 rw[show Zav.fn (a,b,())=ZbK a b from rfl,show Zav.fn (b,a,())=ZbK b a from rfl,show Za0.fn (a,b,())=ZpZ a b from rfl]
 refine⟨fun h=>⟨h,trivial⟩,fun h=>by rw[h];rfl,?_⟩
 unfold ZpZ
 by_cases h:(ZbK a b).2≠0∨(ZbK a b).1=false
 ·rw[show ((!(ZbK a b).1)||((ZbK a b).2 != 0))=true by simpa[or_comm] using h,cond_true,if_pos h]
 ·rw[show ((!(ZbK a b).1)||((ZbK a b).2 != 0))=false by simpa[and_comm] using h,cond_false,if_neg h]
theorem law05_ElimWithin.spec(a b:ZbZ):law05_ElimWithin.wp a b (fun r=>r=true):=by
 simp only[law05_ElimWithin.wp,Zas.fn,Zav.fn,ZbH.fn,Za0.fn,ZC.fn]
 cases ZF.fn _<;>simp
theorem ZF.spec (pi co va : Int) (l : List ZbZ) (hl : l.length ≤ 9223372036854775807) (hs : ∀ s ∈ l, s.2.length ≤ 9223372036854775807 ∧ ∀ p ∈ s.2, p.length ≤ 9223372036854775807 ∧ ∀ c ∈ p, c.2.2.1.length ≤ 9223372036854775807) :
 ZF.wp pi co va l (fun r=>r=ZF.fn (pi,co,va,l,())):=by
 unfold ZF.wp
 dsimp only
 rw[show ZF.fn (pi,co,va,l,())=Zq5 pi co va l from rfl]
 unfold Zq5
 cases hF:Z2.fn (pi,co,l,()) with
 | false=>rfl
 | true =>
   simp only[Bool.not_true,cond_false,Bool.true_and]
   refine Lp.all l (0,[]) (fun s=>!(decide (va < s.1)&&decide (s.1≤12)&&decide (1 < ZtH s))&&s.2.all fun p=>p.all fun c=>(c.2.2.1.all fun n=>!((decide (6 < n)||decide (n < -6))&&Zr s))&&!(decide (12 < c.2.1)&&Zr s)) hl (fun i R hi hi' hf ht hff=>?_) (fun R h=>?_)
   ·rw[decide_eq_true hi',cond_true,Int.toNat_natCast]
    refine⟨⟨by omega,hi'⟩,?_⟩
    obtain⟨b1,b2⟩:=hs _ (Zi (d:=((0,[]):ZbZ)) hi)
    obtain⟨s,hse⟩:∃ s,l.getD i (0,[])=s:=⟨_,rfl⟩
    rw[hse] at ht hff b1 b2 ⊢
    refine Lp.foldl s.2 [] (fun m p=>max m (p.length:Int)) 0 b1 (fun j t R2 hj hj' hf2 _ hR2=>?_) (fun R2=>?_)
    ·dsimp only
     rw[decide_eq_true hj',cond_true,Int.toNat_natCast]
     exact⟨⟨by omega,hj'⟩,hf2,hR2⟩
    ·dsimp only
     rw[decide_eq_false (Int.lt_irrefl _),cond_false]
     refine⟨fun h=>⟨h,trivial⟩,fun h=>⟨h,trivial⟩,fun h=>h,fun h=>⟨h,trivial⟩,fun h=>h,?_⟩
     rw[show (s.2.foldl (fun m p=>max m (p.length:Int)) 0)=ZtH s from rfl]
     cases hA:(decide (va < s.1)&&decide (s.1≤12)&&decide (1 < ZtH s)) with
     | true=>exact (hff (by rw[hA];rfl)).symm
     | false =>
       rw[hA] at ht hff
       simp only[Bool.not_false,Bool.true_and] at ht hff
       rw[cond_false]
       refine Lp.all s.2 [] (fun p=>p.all fun c=>(c.2.2.1.all fun n=>!((decide (6 < n)||decide (n < -6))&&Zr s))&&!(decide (12 < c.2.1)&&Zr s)) b1 (fun j R3 hj hj' hf3 ht3 hff3=>?_) (fun R3 h3=>?_)
       ·rw[decide_eq_true hj',cond_true,Int.toNat_natCast]
        refine⟨⟨by omega,hj'⟩,?_⟩
        obtain⟨d1,d2⟩:=b2 _ (Zi (d:=[]) hj)
        obtain⟨p,hpe⟩:∃ p,s.2.getD j []=p:=⟨_,rfl⟩
        rw[hpe] at ht3 hff3 d1 d2 ⊢
        refine Lp.all p Za (fun c=>(c.2.2.1.all fun n=>!((decide (6 < n)||decide (n < -6))&&Zr s))&&!(decide (12 < c.2.1)&&Zr s)) d1 (fun k R4 hk hk' hf4 ht4 hff4=>?_) (fun R4 h4=>?_)
        ·rw[decide_eq_true hk',cond_true,Int.toNat_natCast]
         refine⟨⟨by omega,hk'⟩,?_⟩
         have e1:=d2 _ (Zi (d:=Za) hk)
         obtain⟨c,hce⟩:∃ c,p.getD k Za=c:=⟨_,rfl⟩
         rw[hce] at ht4 hff4 e1 ⊢
         refine Lp.all c.2.2.1 0 (fun n=>!((decide (6 < n)||decide (n < -6))&&Zr s)) e1 (fun m R5 hm hm' hf5 ht5 hff5=>?_) (fun R5 h5=>?_)
         ·rw[decide_eq_true hm',cond_true,Int.toNat_natCast]
          refine⟨⟨by omega,hm'⟩,fun h=>⟨h,trivial⟩,fun h=>by rw[h];rfl,fun h=>⟨h,trivial⟩,fun h=>h,?_⟩
          rw[show ZJ.fn (s,())=Zr s from rfl]
          cases hB:((decide (6 < c.2.2.1.getD m 0)||decide (c.2.2.1.getD m 0 < -6))&&Zr s) with
          | true =>
            rw[cond_true]
            have g5:=hff5 (by rw[hB];rfl)
            exact (hff (hff3 (hff4 (by rw[g5];rfl)))).symm
          | false =>
            rw[cond_false]
            exact⟨hf5,ht5 (by rw[hB];rfl)⟩
         ·rw[decide_eq_false (Int.lt_irrefl _),cond_false]
          refine⟨fun h=>⟨h,trivial⟩,fun h=>h,?_⟩
          rw[show ZJ.fn (s,())=Zr s from rfl]
          cases hB:(decide (12 < c.2.1)&&Zr s) with
          | true =>
            rw[cond_true]
            exact (hff (hff3 (hff4 (by rw[hB,Bool.not_true,Bool.and_false])))).symm
          | false =>
            rw[cond_false]
            exact⟨hf4,ht4 (by rw[hB,h5];rfl)⟩
        ·rw[decide_eq_false (Int.lt_irrefl _),cond_false]
         exact⟨hf3,ht3 h4⟩
       ·rw[decide_eq_false (Int.lt_irrefl _),cond_false]
        exact⟨hf,ht h3⟩
   ·rw[decide_eq_false (Int.lt_irrefl _),cond_false]
    exact h.symm
end Go.Proofs.YtgpdnmfpgkkgcaaGreatDoor
