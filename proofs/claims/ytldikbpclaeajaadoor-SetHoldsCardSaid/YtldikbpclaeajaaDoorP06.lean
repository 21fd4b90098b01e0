/- Part of a proof that a law of the program holds for every input: what the functions answer, in plain Lean. No conditions. -/
import Derived.Shelf.SlSortCmp.NoneTotal
import Derived.Test.YtldikbpclaeajaaDoorK05
namespace Go.Proofs.YtldikbpclaeajaaDoor
open Go Go.Lib Go.Proofs Go.RowKit Go.Shelf Go.Sort
set_option linter.defProp false
def gJ:=@decide_eq_true_eq
def gY:=@Option.isSome_none
def iX:=@getElem!_pos
def kP:=@Option.map_some
def lF:=@List.getElem_toArray
def lJ:=@Array.extract_size
def lQ:=@Nat.eq_zero_or_pos
set_option linter.unusedSimpArgs false
set_option linter.unusedVariables false
section
variable {P : Program} {ρ : Ren} {E : AB} {objs : AA}
abbrev El(w:World)(S:Nat→Prop)(T:Ty)(xs:List T.den):Type:={p:T.den×List Value//p.1∈xs∧Al w S T p.1 p.2}
theorem Rn{w:World}{S:Nat→Prop}{T:Ty}{xs:List T.den}:∀{l:List T.den}{cs:List Value},(∀x∈l,x∈xs)→Aa w S T l cs→∃ds:List (El w S T xs),ds.map (λp=>p.1.1)=l∧(ds.map λp=>p.1.2).flatten=cs|[],cs,_,h=>⟨[],rfl,(show cs=[]from h).symm⟩|x::l,cs,hm,⟨c1,c2,h,h1,h2⟩=>by obtain⟨ds,e1,e2⟩:=Rn (λy hy=>hm y (by simp[hy])) h2;exact⟨⟨(x,c1),hm x (by simp),h1⟩::ds,by simp[e1],by simp[e2,h]⟩
theorem Q1{w w':World}{S S':Nat→Prop}{T:Ty}{xs:List T.den}(hS:∀b,S b→S' b∧w'.heap[b]?=w.heap[b]?):∀ds:List (El w S T xs),Aa w' S' T (ds.map λp=>p.1.1) (ds.map λp=>p.1.2).flatten|[]=>rfl|d::ds=>⟨d.1.2,(ds.map λp=>p.1.2).flatten,by simp,d.2.2.mono hS,Q1 hS ds⟩
theorem Nr{α:Type}{enc:α→List Value}{k:Nat}(hk:∀x,(enc x).length=k):∀ds:List α,(ds.map enc).flatten.length=ds.length*k|[]=>by simp|d::ds=>by simp only[fK,gR,dW,hk,Nr hk ds,dX,fL];omega
theorem Ry {α : Type} [Inhabited α] {enc : α → List Value} {k : Nat} (hk : ∀ x, (enc x).length = k) : ∀ (ds : List α) (t : Nat), t < ds.length * k →
    (ds.map enc).flatten[t]? = some (enc (ds.getD (t / k) default))[t % k]!
  | [], t, h => by simp at h
  | d :: ds, t, h => by
    have k0 : 0 < k := by rcases lQ k with e | e
                          · subst e; simp at h
                          · exact e
    simp only [fK, gR]
    by_cases ht : t < k
    · rw [fI (by rw [hk]; exact ht), Nat.div_eq_of_lt ht, mK ht]
      simp only [List.getD_cons_zero]
      rw [dY (by rw [hk]; exact ht), iX (enc d) t (by rw [hk]; exact ht)]
    · obtain ⟨u, rfl⟩ : ∃ u, t = u + k := ⟨t - k, by omega⟩
      rw [fH (by rw [hk]; omega), hk, Nat.add_sub_cancel, Nat.add_div_right _ k0, Nat.add_mod_right, jP]
      exact Ry hk ds u (by rw [dX, fL] at h; omega)
theorem Rx{α:Type}[Inhabited α]{enc:α→List Value}{k:Nat}(hk:∀x,(enc x).length=k)(d:Array α):flatK enc k d=((d.toList.map enc).flatten).toArray:=by
 refine ext_get! (by simp only[size_flatK,gI,Nr hk];rfl) λt ht=>?_;have ht':t<d.size*k:=by simpa using ht
 rw[get_flatK _ _ _ t ht'];have h:=Ry hk d.toList t (by rw[eG];exact ht');have hl:t<(d.toList.map enc).flatten.length:=by rw[Nr hk,eG];exact ht'
 rw[iX _ t (by rw[gI];exact hl)];rw[dY hl]at h;simp only[lF];rw[gQ h];congr 2;simp[Array.getElem!_eq_getD,dQ,dM]
theorem XY{w w2:World}{S S2:Nat→Prop}(h:EN w S w2 S2):∃q os,w2=grow (w.drewN q) os:=by
 refine⟨w2.drawn-w.drawn,w2.heap.extract w.heap.size w2.heap.size,?_⟩;have e1:w2.heap=w.heap++w2.heap.extract w.heap.size w2.heap.size:=by
  apply Array.ext_getElem?;intro j;by_cases hj:j<w.heap.size;·rw[iO hj,h.frame j hj]
  ·rw[Array.getElem?_append_right (by omega),Array.getElem?_extract];by_cases hj2:j<w2.heap.size;·rw[dO (by omega)];congr 1;omega
   ·rw[dK (by omega),jA (by omega)]
 have hd:w.drawn+(w2.drawn-w.drawn)=w2.drawn:=by have :=h.drawn;omega
 obtain⟨hp,tp,dr,os,ou⟩:=w2;simp only[grow,World.drewN];simp only at e1 hd;have h1:=h.os;have h2:=h.tape;have h3:=h.output;simp only at h1 h2 h3;subst h1 h2 h3;rw[hd,←e1]
theorem P1{α:Type}[Inhabited α]{enc:α→List Value}{k blk off m:Nat}{w:World}{d:Array α}{os:Array Go.Obj}{b:Nat}(hb:b<w.heap.size):(sortWorldK enc k w blk off m d os).heap[b]?=if blk=b then(w.heap[b]?).map (onCells (Sort.putCells id off (flatK enc k d)))else w.heap[b]?:=by unfold sortWorldK;simp only[grow,putRowK,putRow,mapBlock];rw[iO (by simpa using hb),Array.getElem?_modify];rfl
theorem Uy{α:Type}[Inhabited α]{enc:α→List Value}{k blk off m:Nat}{w:World}{d:Array α}{os:Array Go.Obj}:w.heap.size≤(sortWorldK enc k w blk off m d os).heap.size:=by unfold sortWorldK;simp only[grow,putRowK,putRow,mapBlock,iY,Array.size_modify];exact mI _ _
theorem aO{α:Type}[Inhabited α]{enc:α→List Value}{k blk off m:Nat}{w:World}{d:Array α}{os:Array Go.Obj}:w.grownBy (sortWorldK enc k w blk off m d os) (some blk):=⟨rfl,rfl,rfl,Uy,λj hj AU=>by rw[P1 hj,dK λe=>AU (by rw[e])]⟩
theorem aN{F c:Array Value}(h:F.size≤c.size):(Sort.putCells id 0 F c).size=c.size∧(Sort.putCells id 0 F c).toList.take F.size=F.toList:=by
 refine⟨by simp[Sort.putCells],?_⟩;apply fP;intro j;rw[eE];split;·rename_i hj;rw[fD,fD];simp only[Sort.putCells,Array.getElem?_mapIdx];rw[eZ (by omega:j<c.size)];simp only[kP,fW,fE,true_and,dO hj,lS,id];rw[iX F j hj,eZ hj]
 ·rename_i hj;rw[fD,jA (by omega)]
def Oz:Ty→Bool|.pair _ _=>true|_=>false
theorem Qq{w:World}{S:Nat→Prop}{T:Ty}(h:Oz T=true){x:T.den}{cs:List Value}(hc:Al w S T x cs):Gy w S T x (.agg cs.toArray):=by cases T<;>simp only[Oz,eW]at h;exact⟨cs.toArray,rfl,by simpa using hc⟩
theorem bE{α:Type}{f:α→α→Int}(h1:∀x y,f x y=-f y x)(h2:∀x y z,f x y≤0→f y z≤0→f x z≤0∧(f x z=0→f x y=0∧f y z=0)):SWO (ltOf f)where
 irrefl x:=by have :=h1 x x;simp only[ltOf,gS];omega
 trans x y z a b:=by
  simp only[ltOf,gJ]at a b⊢;obtain⟨c,d⟩:=h2 x y z (by omega) (by omega);by_cases e:f x z=0;·have :=(d e).1;omega
  ·omega
 ntrans x y z a b:=by simp only[ltOf,gS]at a b⊢;have c1:=h1 x y;have c2:=h1 y z;have c3:=h1 x z;have :=(h2 z y x (by omega) (by omega)).1;omega
set_option maxHeartbeats 1600000 in
theorem aS(L:SlLaysF0.n6 P ρ){T:Ty}(hp:Oz T=true)(aE:∀w,(isAgg (ρ.t 24)).run P w=.ok true w)(zE:∀w,(Go.sizeOf (ρ.t 24)).run P w=.ok T.size w){c:FuncId}{pre:BO [.d T,.d T]→Prop}{f:T.den→T.den→Int}(hc:Bu P (ρ.f 6))(Sh:AR P c ⟨[.d T,.d T],some pre,λx=>.d (.int .i64) (f x.1 x.2.1)⟩)(h1:∀x y,f x y=-f y x)(h2:∀x y z,f x y≤0→f y z≤0→f x z≤0∧(f x z=0→f x y=0∧f y z=0)):Sp.Ok P (ρ.f 6) (.sort T c (λa b=>pre (a,b,())) f):=by
 refine⟨hc,λxs Bw E objs l Lc g AI hL=>?_⟩;obtain⟨hlen,hpre⟩:=Bw;obtain⟨L',hL',hat⟩:=g.at_ _ _ AI;rw[hL]at hL';cases hL';obtain⟨CH,AW,IW,e,cs,hcs,B3⟩:=hat;by_cases Fz:xs=[]
 ·subst Fz;have hv:Lc.v=.slice Lc.a 0 Lc.cap:=by unfold AH.v;rw[IW];rfl
  rw[hv];refine gG (AnyF.slices_SortFunc_none L Lc.a Lc.cap _ E.w) ?_;rintro e' w2⟨rfl,rfl⟩;have Jw:=U.put g (mv:=false) (o':=.row T []) (L':=Lc) (w:=E.w) (row:=none) AI hL ⟨rfl,rfl,rfl,dT _,λ_ _ _=>rfl⟩ (λb h=>by cases h) (λ_=>rfl) ⟨CH,AW,IW,e,cs,hcs,B3⟩ λh=>.inl ⟨h,rfl⟩;exact⟨_,E.setL E.w l Lc,[],rfl,rfl,⟨List.Perm.refl _,List.Pairwise.nil⟩,Jw.1,Jw.2,dT _,.tup rfl λj hj=>by simp at hj⟩
 ·obtain⟨h,h'⟩|⟨cur,ha,hb,hle,Cl,X2,AS,Oj⟩:=B3;·exact absurd h' Fz
  obtain⟨ds,e1,e2⟩:=Rn (xs:=xs) (λx hx=>hx) hcs;have hd0:ds.length=xs.length:=by have :=eR List.length e1;simpa using this
  have AU:ds≠[]:=λh=>Fz (dZ (by rw[←hd0,h];rfl));obtain⟨d0,cS⟩:=List.exists_mem_of_ne_nil ds AU;haveI :Inhabited (El E.w E.S T xs):=⟨d0⟩;have EH:Bi E objs Lc.b:=⟨l,_,Lc,AI,hL,by show Lc.cap≠0;omega,rfl⟩;have YR:¬E.S Lc.b:=g.ns _ EH;have Sf:Lc.b<E.w.heap.size:=(Array.getElem?_eq_some_iff.1 hb).1;obtain⟨enc,HQ⟩:∃enc:El E.w E.S T xs→List Value,enc=λp=>p.1.2:=⟨_,rfl⟩;have hk:∀x,(enc x).length=T.size:=λx=>by rw[HQ];exact x.2.2.length
  have Fv:∀x,∀v∈enc x,v.oneCell'=true:=λx=>by rw[HQ];exact x.2.2.one
  obtain⟨cf,FK⟩:∃cf:El E.w E.S T xs→El E.w E.S T xs→Int,cf=λp q=>f p.1.1 q.1.1:=⟨_,rfl⟩;have hO:SWO (ltOf cf):=bE (λx y=>by rw[FK];exact h1 _ _) λx y z a b=>by rw[FK]at a b⊢;exact h2 _ _ _ a b
  have hS:∀(m:Nat)(os:Array Go.Obj)(dk:Array (El E.w E.S T xs)),∀b,E.S b→E.S b∧(sortWorldK enc T.size E.w Lc.b 0 m dk os).heap[b]?=E.w.heap[b]?:=λm os dk b Jd=>⟨Jd,by rw[P1 (g.sl b Jd),dK λe=>YR (by rw[e];exact Jd)]⟩;have eg:∀args w,(callFunc c args).run P w=.ok (.enter c args) w:=λargs w=>M6 Sh.1 args w;have hC:CmpLays P c #[] enc T.size cf Lc.b 0 ds.toArray.size E.w:=by
   intro m os dk cT x y;have N9:=Sh.2 (sortWorldK enc T.size E.w Lc.b 0 m dk os) E.S (x.1.1,y.1.1,()) ⟨λb Jd=>gF (g.sl b Jd) Uy,g.tab.mono (hS m os dk)⟩ (hpre _ x.2.1 _ y.2.1) (#[.agg (enc x).toArray,.agg (enc y).toArray]++#[]) (by
    have hx:Hx (sortWorldK enc T.size E.w Lc.b 0 m dk os) E.S [T,T] (x.1.1,y.1.1) [.agg (enc x).toArray,.agg (enc y).toArray]:=by
     refine⟨_,_,rfl,Qq hp ?_,_,rfl,Qq hp ?_⟩
     ·have :=x.2.2.mono (hS m os dk);have e3:enc x=x.1.2:=by rw[HQ]
      rw[e3];exact this
     ·have :=y.2.2.mono (hS m os dk);have e3:enc y=y.1.2:=by rw[HQ]
      rw[e3];exact this
    have EW:AE P ⟨sortWorldK enc T.size E.w Lc.b 0 m dk os,E.S,λ_=>none⟩ (C2 [.d T,.d T] (x.1.1,y.1.1,())) [.agg (enc x).toArray,.agg (enc y).toArray]:=Kq hx;simpa using EW);refine gG N9 ?_;rintro e2 w2⟨v,S2,rfl,hgr,hv⟩;have :=Ox hv;subst this;exact⟨by rw[FK],XY hgr⟩
  have OM:=Rx hk ds.toArray;simp only at OM;have Jk:(ds.map enc).flatten=cs:=by rw[HQ];exact e2
  rw[Jk]at OM;have OC:cs.length=xs.length*T.size:=hcs.length;have hmul:xs.length*T.size≤Lc.cap*T.size:=eT _ hle;have hH:HoldsK enc T.size E.w Lc.b 0 ds.toArray:=by
   intro j hj;rw[OM]at hj⊢;have hj':j<cs.length:=by simpa using hj
   have Si:cur[j]?=cs[j]?:=by rw[←Oj,eE,dO (by omega),fD]
   refine⟨?_,?_⟩;·simp only[World.cell?,hb,fE];rw[iX _ j hj];simp only[id,gY,eW,gK,Si,lF,dY hj']
   ·simp[World.frozen?,hb]
  have OI:ds.toArray.size=xs.length:=by simpa using hd0
  have hv:Lc.v=.slice (some ⟨Lc.b,0,none⟩) ds.toArray.size Lc.cap:=by unfold AH.v;rw[IW,ha,OI]
  rw[hv];refine gG (AnyQ.slices_SortFunc L T.size aE zE enc hk Fv cf hO c #[] Lc.b 0 Lc.cap ds.toArray E.w eg hC hH Sf (by rw[OI];exact hlen)) ?_;rintro e' w2⟨rfl,d',n,os,Ll,Yg,rfl⟩;obtain⟨ys,CW⟩:∃ys:List T.den,ys=d'.toList.map λp=>p.1.1:=⟨_,rfl⟩;have TP:d'.size=xs.length:=by rw[Ll.1,OI]
  have Oq:ys.length=xs.length:=by rw[CW,fB,eG,TP]
  have hperm:xs.Perm ys:=by have h3:=Ll.2.2;rw[show d'.extract 0 ds.toArray.size=d' from by rw[←Ll.1];exact lJ]at h3;rw[show ds.toArray.extract 0 ds.toArray.size=ds.toArray from lJ]at h3;have h4:=(h3.map λp=>p.1.1).symm;rw[CW];refine List.Perm.trans (.of_eq e1.symm) ?_;simpa using h4
  have Yh:Iu f ys:=by unfold Iu;rw[CW,List.pairwise_map,List.pairwise_iff_getElem];intro i j hi hj Ep;rw[eG]at hi hj;have h5:=Yg i j (fW _) Ep (by rw[←Ll.1];exact hj);rw[iX d' j hj,iX d' i hi]at h5;simp only[ltOf,gS,FK]at h5;simpa using h5
  have Jw:=U.put g (mv:=false) (o':=.row T ys) (L':=Lc) (w:=sortWorldK enc T.size E.w Lc.b 0 n d' os) (row:=some Lc.b) AI hL aO (λb h=>by cases h;exact⟨by show Lc.cap≠0;omega,rfl⟩) (λ_=>rfl) ?_ λh=>.inl ⟨by show Lc.cap≠0;omega,rfl⟩;·exact⟨_,E.setL _ l Lc,ys,rfl,rfl,⟨hperm,Yh⟩,Jw.1,Jw.2,by show E.w.drawn≤E.w.drawn+n;omega,.tup rfl λj hj=>by simp at hj⟩
  ·have YC:=Rx hk d';have hF:(flatK enc T.size d').size=xs.length*T.size:=by rw[size_flatK,TP]
   obtain⟨p1,p2⟩:=aN (F:=flatK enc T.size d') (c:=cur) (by rw[hF,AS];exact hmul);refine⟨CH,AW,by rw[IW,Oq],e,(d'.toList.map enc).flatten,?_,.inr ⟨Sort.putCells id 0 (flatK enc T.size d') cur,ha,?_,by rw[Oq];exact hle,Cl,X2,by rw[p1];exact AS,?_⟩⟩;·rw[CW,HQ];have :=Q1 (w':=sortWorldK enc T.size E.w Lc.b 0 n d' os) (S':=E.S) (hS n os d') d'.toList;rw[HQ]at this;exact this
   ·show(sortWorldK enc T.size E.w Lc.b 0 n d' os).heap[Lc.b]?=_;rw[P1 Sf,dO rfl,hb];rfl
   ·rw[Oq,←hF,p2,YC]
end
end Go.Proofs.YtldikbpclaeajaaDoor
