/- Part of a proof that a law of the program holds for every input: what the functions answer, in plain Lean. No conditions. -/
import Derived.Shelf.SlSortCmp.NoneTotal
import Derived.Test.YtldikbpclaeajaaGreatDoorK05
namespace Go.Proofs.YtldikbpclaeajaaGreatDoor
open Go Go.Lib Go.Proofs Go.RowKit Go.Shelf Go.Sort
set_option linter.defProp false
def ZAp:=@decide_eq_true_eq
def ZBe:=@Option.isSome_none
def ZBf:=@Array.getElem?_modify
def ZBr:=@getElem!_pos
def ZCB:=@true_and
def ZCp:=@Option.map_some
def ZDR:=@Array.getElem?_mapIdx
def ZDb:=@List.getElem_toArray
def ZDf:=@List.getD_cons_zero
def ZDg:=@Array.extract_size
def ZDo:=@Nat.eq_zero_or_pos
set_option linter.unusedSimpArgs false
set_option linter.unusedVariables false
section
variable {P : Program} {ρ : Ren} {E : AH} {objs : AF}
abbrev El(w:World)(S:Nat→Prop)(T:Ty)(xs:List T.den):Type:={p:T.den×List Value//p.1∈xs∧BE w S T p.1 p.2}
theorem XV{w:World}{S:Nat→Prop}{T:Ty}{xs:List T.den}:∀{l:List T.den}{cs:List Value},(∀x∈l,x∈xs)→Aq w S T l cs→∃ds:List (El w S T xs),ds.map (λp=>p.1.1)=l∧(ds.map λp=>p.1.2).flatten=cs|[],cs,_,h=>⟨[],rfl,(show cs=[]from h).symm⟩|x::l,cs,hm,⟨c1,c2,h,h1,h2⟩=>by obtain⟨ds,e1,e2⟩:=XV (λy hy=>hm y (by simp[hy])) h2;exact⟨⟨(x,c1),hm x (by simp),h1⟩::ds,by simp[e1],by simp[e2,h]⟩
theorem Wa{w w':World}{S S':Nat→Prop}{T:Ty}{xs:List T.den}(hS:∀b,S b→S' b∧w'.heap[b]?=w.heap[b]?):∀ds:List (El w S T xs),Aq w' S' T (ds.map λp=>p.1.1) (ds.map λp=>p.1.2).flatten|[]=>rfl|d::ds=>⟨d.1.2,(ds.map λp=>p.1.2).flatten,by simp,d.2.2.mono hS,Wa hS ds⟩
theorem Sz{α:Type}{enc:α→List Value}{k:Nat}(hk:∀x,(enc x).length=k):∀ds:List α,(ds.map enc).flatten.length=ds.length*k|[]=>by simp|d::ds=>by simp only[ZAK,ZAm,yU,hk,Sz hk ds,yX,ZAd];omega
theorem Xp {α : Type} [Inhabited α] {enc : α → List Value} {k : Nat} (hk : ∀ x, (enc x).length = k) : ∀ (ds : List α) (t : Nat), t < ds.length * k →
    (ds.map enc).flatten[t]? = some (enc (ds.getD (t / k) default))[t % k]!
  | [], t, h => by simp at h
  | d :: ds, t, h => by
    have k0 : 0 < k := by rcases ZDo k with e | e
                          · subst e; simp at h
                          · exact e
    simp only [ZAK, ZAm]
    by_cases ht : t < k
    · rw [ZAV (by rw [hk]; exact ht), Nat.div_eq_of_lt ht, Nat.mod_eq_of_lt ht]
      simp only [ZDf]
      rw [zK (by rw [hk]; exact ht), ZBr (enc d) t (by rw [hk]; exact ht)]
    · obtain ⟨u, rfl⟩ : ∃ u, t = u + k := ⟨t - k, by omega⟩
      rw [ZAS (by rw [hk]; omega), hk, Nat.add_sub_cancel, Nat.add_div_right _ k0, Nat.add_mod_right, ZCF]
      exact Xp hk ds u (by rw [yX, ZAd] at h; omega)
theorem Xo{α:Type}[Inhabited α]{enc:α→List Value}{k:Nat}(hk:∀x,(enc x).length=k)(d:Array α):flatK enc k d=((d.toList.map enc).flatten).toArray:=by
 refine ext_get! (by simp only[size_flatK,ZAy,Sz hk];rfl) λt ht=>?_;have ht':t<d.size*k:=by simpa using ht
 rw[get_flatK _ _ _ t ht'];have h:=Xp hk d.toList t (by rw[zT];exact ht');have hl:t<(d.toList.map enc).flatten.length:=by rw[Sz hk,zT];exact ht'
 rw[ZBr _ t (by rw[ZAy];exact hl)];rw[zK hl]at h;simp only[ZDb];rw[ZBJ h];congr 2;simp[Array.getElem!_eq_getD,zH,yT]
theorem lM{w w2:World}{S S2:Nat→Prop}(h:G0 w S w2 S2):∃q os,w2=grow (w.drewN q) os:=by
 refine⟨w2.drawn-w.drawn,w2.heap.extract w.heap.size w2.heap.size,?_⟩;have e1:w2.heap=w.heap++w2.heap.extract w.heap.size w2.heap.size:=by
  apply Array.ext_getElem?;intro j;by_cases hj:j<w.heap.size;·rw[ZBB hj,h.frame j hj]
  ·rw[Array.getElem?_append_right (by omega),Array.getElem?_extract];by_cases hj2:j<w2.heap.size;·rw[yS (by omega)];congr 1;omega
   ·rw[yP (by omega),ZCV (by omega)]
 have hd:w.drawn+(w2.drawn-w.drawn)=w2.drawn:=by have :=h.drawn;omega
 obtain⟨hp,tp,dr,os,ou⟩:=w2;simp only[grow,World.drewN];simp only at e1 hd;have h1:=h.os;have h2:=h.tape;have h3:=h.output;simp only at h1 h2 h3;subst h1 h2 h3;rw[hd,←e1]
theorem VY{α:Type}[Inhabited α]{enc:α→List Value}{k blk off m:Nat}{w:World}{d:Array α}{os:Array Go.Obj}{b:Nat}(hb:b<w.heap.size):(sortWorldK enc k w blk off m d os).heap[b]?=if blk=b then(w.heap[b]?).map (onCells (Sort.putCells id off (flatK enc k d)))else w.heap[b]?:=by unfold sortWorldK;simp only[grow,putRowK,putRow,mapBlock];rw[ZBB (by simpa using hb),ZBf];rfl
theorem cP{α:Type}[Inhabited α]{enc:α→List Value}{k blk off m:Nat}{w:World}{d:Array α}{os:Array Go.Obj}:w.heap.size≤(sortWorldK enc k w blk off m d os).heap.size:=by unfold sortWorldK;simp only[grow,putRowK,putRow,mapBlock,ZBU,Array.size_modify];exact Nat.le_add_right _ _
theorem uO{α:Type}[Inhabited α]{enc:α→List Value}{k blk off m:Nat}{w:World}{d:Array α}{os:Array Go.Obj}:w.grownBy (sortWorldK enc k w blk off m d os) (some blk):=⟨rfl,rfl,rfl,cP,λj hj Ab=>by rw[VY hj,yP λe=>Ab (by rw[e])]⟩
theorem uN{F c:Array Value}(h:F.size≤c.size):(Sort.putCells id 0 F c).size=c.size∧(Sort.putCells id 0 F c).toList.take F.size=F.toList:=by
 refine⟨by simp[Sort.putCells],?_⟩;apply ZAZ;intro j;rw[zP];split;·rename_i hj;rw[ZAR,ZAR];simp only[Sort.putCells,ZDR];rw[ZAN (by omega:j<c.size)];simp only[ZCp,ZAl,ZAJ,ZCB,yS hj,ZCo,id];rw[ZBr F j hj,ZAN hj]
 ·rename_i hj;rw[ZAR,ZCV (by omega)]
def UO:Ty→Bool|.pair _ _=>true|_=>false
theorem WP{w:World}{S:Nat→Prop}{T:Ty}(h:UO T=true){x:T.den}{cs:List Value}(hc:BE w S T x cs):Jz w S T x (.agg cs.toArray):=by cases T<;>simp only[UO,zY]at h;exact⟨cs.toArray,rfl,by simpa using hc⟩
theorem vG{α:Type}{f:α→α→Int}(h1:∀x y,f x y=-f y x)(h2:∀x y z,f x y≤0→f y z≤0→f x z≤0∧(f x z=0→f x y=0∧f y z=0)):SWO (ltOf f)where
 irrefl x:=by have :=h1 x x;simp only[ltOf,ZAU];omega
 trans x y z a b:=by
  simp only[ltOf,ZAp]at a b⊢;obtain⟨c,d⟩:=h2 x y z (by omega) (by omega);by_cases e:f x z=0;·have :=(d e).1;omega
  ·omega
 ntrans x y z a b:=by simp only[ltOf,ZAU]at a b⊢;have c1:=h1 x y;have c2:=h1 y z;have c3:=h1 x z;have :=(h2 z y x (by omega) (by omega)).1;omega
set_option maxHeartbeats 1600000 in
theorem uU(L:SlLaysF0.n6 P ρ){T:Ty}(hp:UO T=true)(aE:∀w,(isAgg (ρ.t 24)).run P w=.ok true w)(zE:∀w,(Go.sizeOf (ρ.t 24)).run P w=.ok T.size w){c:FuncId}{pre:B9 [.d T,.d T]→Prop}{f:T.den→T.den→Int}(hc:Bz P (ρ.f 6))(YY:AN P c ⟨[.d T,.d T],some pre,λx=>.d (.int .i64) (f x.1 x.2.1)⟩)(h1:∀x y,f x y=-f y x)(h2:∀x y z,f x y≤0→f y z≤0→f x z≤0∧(f x z=0→f x y=0∧f y z=0)):Sp.Ok P (ρ.f 6) (.sort T c (λa b=>pre (a,b,())) f):=by
 refine⟨hc,λxs Cu E objs l Lc g AZ hL=>?_⟩;obtain⟨hlen,hpre⟩:=Cu;obtain⟨L',hL',hat⟩:=g.at_ _ _ AZ;rw[hL]at hL';cases hL';obtain⟨C7,Ag,IK,e,cs,hcs,A9⟩:=hat;by_cases I0:xs=[]
 ·subst I0;have hv:Lc.v=.slice Lc.a 0 Lc.cap:=by unfold AU.v;rw[IK];rfl
  rw[hv];refine ZAh (AnyF.slices_SortFunc_none L Lc.a Lc.cap _ E.w) ?_;rintro e' w2⟨rfl,rfl⟩;have F2:=AC.put g (mv:=false) (o':=.row T []) (L':=Lc) (w:=E.w) (row:=none) AZ hL ⟨rfl,rfl,rfl,zB _,λ_ _ _=>rfl⟩ (λb h=>by cases h) (λ_=>rfl) ⟨C7,Ag,IK,e,cs,hcs,A9⟩ λh=>.inl ⟨h,rfl⟩;exact⟨_,E.setL E.w l Lc,[],rfl,rfl,⟨List.Perm.refl _,List.Pairwise.nil⟩,F2.1,F2.2,zB _,.tup rfl λj hj=>by simp at hj⟩
 ·obtain⟨h,h'⟩|⟨cur,ha,hb,hle,CH,Bq,Ae,JX⟩:=A9;·exact absurd h' I0
  obtain⟨ds,e1,e2⟩:=XV (xs:=xs) (λx hx=>hx) hcs;have hd0:ds.length=xs.length:=by have :=zX List.length e1;simpa using this
  have Ab:ds≠[]:=λh=>I0 (zR (by rw[←hd0,h];rfl));obtain⟨d0,xO⟩:=List.exists_mem_of_ne_nil ds Ab;haveI :Inhabited (El E.w E.S T xs):=⟨d0⟩;have FS:Cd E objs Lc.b:=⟨l,_,Lc,AZ,hL,by show Lc.cap≠0;omega,rfl⟩;have oI:¬E.S Lc.b:=g.ns _ FS;have YX:Lc.b<E.w.heap.size:=(Array.getElem?_eq_some_iff.1 hb).1;obtain⟨enc,KW⟩:∃enc:El E.w E.S T xs→List Value,enc=λp=>p.1.2:=⟨_,rfl⟩;have hk:∀x,(enc x).length=T.size:=λx=>by rw[KW];exact x.2.2.length
  have Iu:∀x,∀v∈enc x,v.oneCell'=true:=λx=>by rw[KW];exact x.2.2.one
  obtain⟨cf,DD⟩:∃cf:El E.w E.S T xs→El E.w E.S T xs→Int,cf=λp q=>f p.1.1 q.1.1:=⟨_,rfl⟩;have hO:SWO (ltOf cf):=vG (λx y=>by rw[DD];exact h1 _ _) λx y z a b=>by rw[DD]at a b⊢;exact h2 _ _ _ a b
  have hS:∀(m:Nat)(os:Array Go.Obj)(dk:Array (El E.w E.S T xs)),∀b,E.S b→E.S b∧(sortWorldK enc T.size E.w Lc.b 0 m dk os).heap[b]?=E.w.heap[b]?:=λm os dk b NT=>⟨NT,by rw[VY (g.sl b NT),yP λe=>oI (by rw[e];exact NT)]⟩;have eg:∀args w,(callFunc c args).run P w=.ok (.enter c args) w:=λargs w=>Rq YY.1 args w;have hC:CmpLays P c #[] enc T.size cf Lc.b 0 ds.toArray.size E.w:=by
   intro m os dk xQ x y;have TU:=YY.2 (sortWorldK enc T.size E.w Lc.b 0 m dk os) E.S (x.1.1,y.1.1,()) ⟨λb NT=>ZA0 (g.sl b NT) cP,g.tab.mono (hS m os dk)⟩ (hpre _ x.2.1 _ y.2.1) (#[.agg (enc x).toArray,.agg (enc y).toArray]++#[]) (by
    have hx:LI (sortWorldK enc T.size E.w Lc.b 0 m dk os) E.S [T,T] (x.1.1,y.1.1) [.agg (enc x).toArray,.agg (enc y).toArray]:=by
     refine⟨_,_,rfl,WP hp ?_,_,rfl,WP hp ?_⟩
     ·have :=x.2.2.mono (hS m os dk);have e3:enc x=x.1.2:=by rw[KW]
      rw[e3];exact this
     ·have :=y.2.2.mono (hS m os dk);have e3:enc y=y.1.2:=by rw[KW]
      rw[e3];exact this
    have HP:AS P ⟨sortWorldK enc T.size E.w Lc.b 0 m dk os,E.S,λ_=>none⟩ (CL [.d T,.d T] (x.1.1,y.1.1,())) [.agg (enc x).toArray,.agg (enc y).toArray]:=O8 hx;simpa using HP);refine ZAh TU ?_;rintro e2 w2⟨v,S2,rfl,hgr,hv⟩;have :=N9 hv;subst this;exact⟨by rw[DD],lM hgr⟩
  have Tf:=Xo hk ds.toArray;simp only at Tf;have Ir:(ds.map enc).flatten=cs:=by rw[KW];exact e2
  rw[Ir]at Tf;have TW:cs.length=xs.length*T.size:=hcs.length;have hmul:xs.length*T.size≤Lc.cap*T.size:=ZAQ _ hle;have hH:HoldsK enc T.size E.w Lc.b 0 ds.toArray:=by
   intro j hj;rw[Tf]at hj⊢;have hj':j<cs.length:=by simpa using hj
   have KS:cur[j]?=cs[j]?:=by rw[←JX,zP,yS (by omega),ZAR]
   refine⟨?_,?_⟩;·simp only[World.cell?,hb,ZAJ];rw[ZBr _ j hj];simp only[id,ZBe,zY,ZAY,KS,ZDb,zK hj']
   ·simp[World.frozen?,hb]
  have Tc:ds.toArray.size=xs.length:=by simpa using hd0
  have hv:Lc.v=.slice (some ⟨Lc.b,0,none⟩) ds.toArray.size Lc.cap:=by unfold AU.v;rw[IK,ha,Tc]
  rw[hv];refine ZAh (AnyQ.slices_SortFunc L T.size aE zE enc hk Iu cf hO c #[] Lc.b 0 Lc.cap ds.toArray E.w eg hC hH YX (by rw[Tc];exact hlen)) ?_;rintro e' w2⟨rfl,d',n,os,QG,pA,rfl⟩;obtain⟨ys,Dv⟩:∃ys:List T.den,ys=d'.toList.map λp=>p.1.1:=⟨_,rfl⟩;have ZG:d'.size=xs.length:=by rw[QG.1,Tc]
  have UH:ys.length=xs.length:=by rw[Dv,zL,zT,ZG]
  have hperm:xs.Perm ys:=by have h3:=QG.2.2;rw[show d'.extract 0 ds.toArray.size=d' from by rw[←QG.1];exact ZDg]at h3;rw[show ds.toArray.extract 0 ds.toArray.size=ds.toArray from ZDg]at h3;have h4:=(h3.map λp=>p.1.1).symm;rw[Dv];refine List.Perm.trans (.of_eq e1.symm) ?_;simpa using h4
  have pB:Mg f ys:=by unfold Mg;rw[Dv,List.pairwise_map,List.pairwise_iff_getElem];intro i j hi hj hij;rw[zT]at hi hj;have h5:=pA i j (ZAl _) hij (by rw[←QG.1];exact hj);rw[ZBr d' j hj,ZBr d' i hi]at h5;simp only[ltOf,ZAU,DD]at h5;simpa using h5
  have F2:=AC.put g (mv:=false) (o':=.row T ys) (L':=Lc) (w:=sortWorldK enc T.size E.w Lc.b 0 n d' os) (row:=some Lc.b) AZ hL uO (λb h=>by cases h;exact⟨by show Lc.cap≠0;omega,rfl⟩) (λ_=>rfl) ?_ λh=>.inl ⟨by show Lc.cap≠0;omega,rfl⟩;·exact⟨_,E.setL _ l Lc,ys,rfl,rfl,⟨hperm,pB⟩,F2.1,F2.2,by show E.w.drawn≤E.w.drawn+n;omega,.tup rfl λj hj=>by simp at hj⟩
  ·have nI:=Xo hk d';have hF:(flatK enc T.size d').size=xs.length*T.size:=by rw[size_flatK,ZG]
   obtain⟨p1,p2⟩:=uN (F:=flatK enc T.size d') (c:=cur) (by rw[hF,Ae];exact hmul);refine⟨C7,Ag,by rw[IK,UH],e,(d'.toList.map enc).flatten,?_,.inr ⟨Sort.putCells id 0 (flatK enc T.size d') cur,ha,?_,by rw[UH];exact hle,CH,Bq,by rw[p1];exact Ae,?_⟩⟩;·rw[Dv,KW];have :=Wa (w':=sortWorldK enc T.size E.w Lc.b 0 n d' os) (S':=E.S) (hS n os d') d'.toList;rw[KW]at this;exact this
   ·show(sortWorldK enc T.size E.w Lc.b 0 n d' os).heap[Lc.b]?=_;rw[VY YX,yS rfl,hb];rfl
   ·rw[UH,←hF,p2,nI]
end
end Go.Proofs.YtldikbpclaeajaaGreatDoor
