/- Part of a proof that a law of the program holds for every input: what the functions answer, in plain Lean. No conditions. -/
import Derived.Shelf.SlSortCmp.NoneTotal
import Derived.Test.YtgpdnmfpgkkgcaaGreatDoorK06
namespace Go.Proofs.YtgpdnmfpgkkgcaaGreatDoor
open Go Go.Lib Go.Proofs Go.RowKit Go.Shelf Go.Sort
set_option linter.defProp false
def ZG0:=@decide_eq_true_eq
def ZIg:=@Option.isSome_none
def ZIt:=@getElem!_pos
def ZJa:=@Array.getElem?_modify
def ZJm:=@Option.map_some
def ZJp:=@List.getD_cons_zero
def ZKW:=@Array.getElem?_mapIdx
def ZKi:=@List.getElem_toArray
def ZKn:=@true_and
def ZKv:=@Array.extract_size
def ZK3:=@Nat.eq_zero_or_pos
set_option linter.unusedSimpArgs false
set_option linter.unusedVariables false
section
variable {P : Program} {ρ : Ren} {E : AF} {objs : AH}
abbrev El(w:World)(S:Nat→Prop)(T:Ty)(xs:List T.den):Type:={p:T.den×List Value//p.1∈xs∧BZ w S T p.1 p.2}
theorem iE{w:World}{S:Nat→Prop}{T:Ty}{xs:List T.den}:∀{l:List T.den}{cs:List Value},(∀x∈l,x∈xs)→A8 w S T l cs→∃ds:List (El w S T xs),ds.map (λp=>p.1.1)=l∧(ds.map λp=>p.1.2).flatten=cs|[],cs,_,h=>⟨[],rfl,(show cs=[]from h).symm⟩|x::l,cs,hm,⟨c1,c2,h,h1,h2⟩=>by obtain⟨ds,e1,e2⟩:=iE (λy hy=>hm y (by simp[hy])) h2;exact⟨⟨(x,c1),hm x (by simp),h1⟩::ds,by simp[e1],by simp[e2,h]⟩
theorem eK{w w':World}{S S':Nat→Prop}{T:Ty}{xs:List T.den}(hS:∀b,S b→S' b∧w'.heap[b]?=w.heap[b]?):∀ds:List (El w S T xs),A8 w' S' T (ds.map λp=>p.1.1) (ds.map λp=>p.1.2).flatten|[]=>rfl|d::ds=>⟨d.1.2,(ds.map λp=>p.1.2).flatten,by simp,d.2.2.mono hS,eK hS ds⟩
theorem XO{α:Type}{enc:α→List Value}{k:Nat}(hk:∀x,(enc x).length=k):∀ds:List α,(ds.map enc).flatten.length=ds.length*k|[]=>by simp|d::ds=>by simp only[ZGi,ZIV,ZGI,hk,XO hk ds,ZGL,ZHS];omega
theorem iY {α : Type} [Inhabited α] {enc : α → List Value} {k : Nat} (hk : ∀ x, (enc x).length = k) : ∀ (ds : List α) (t : Nat), t < ds.length * k →
    (ds.map enc).flatten[t]? = some (enc (ds.getD (t / k) default))[t % k]!
  | [], t, h => by simp at h
  | d :: ds, t, h => by
    have k0 : 0 < k := by rcases ZK3 k with e | e
                          · subst e; simp at h
                          · exact e
    simp only [ZGi, ZIV]
    by_cases ht : t < k
    · rw [ZHK (by rw [hk]; exact ht), Nat.div_eq_of_lt ht, Nat.mod_eq_of_lt ht]
      simp only [ZJp]
      rw [ZGU (by rw [hk]; exact ht), ZIt (enc d) t (by rw [hk]; exact ht)]
    · obtain ⟨u, rfl⟩ : ∃ u, t = u + k := ⟨t - k, by omega⟩
      rw [ZG5 (by rw [hk]; omega), hk, Nat.add_sub_cancel, Nat.add_div_right _ k0, Nat.add_mod_right, ZIu]
      exact iY hk ds u (by rw [ZGL, ZHS] at h; omega)
theorem iW{α:Type}[Inhabited α]{enc:α→List Value}{k:Nat}(hk:∀x,(enc x).length=k)(d:Array α):flatK enc k d=((d.toList.map enc).flatten).toArray:=by
 refine ext_get! (by simp only[size_flatK,ZII,XO hk];rfl) λt ht=>?_;have ht':t<d.size*k:=by simpa using ht
 rw[get_flatK _ _ _ t ht'];have h:=iY hk d.toList t (by rw[ZGn];exact ht');have hl:t<(d.toList.map enc).flatten.length:=by rw[XO hk,ZGn];exact ht'
 rw[ZIt _ t (by rw[ZII];exact hl)];rw[ZGU hl]at h;simp only[ZKi];rw[ZH7 h];congr 2;simp[Array.getElem!_eq_getD,ZGV,ZGG]
theorem ZAy{w w2:World}{S S2:Nat→Prop}(h:JE w S w2 S2):∃q os,w2=grow (w.drewN q) os:=by
 refine⟨w2.drawn-w.drawn,w2.heap.extract w.heap.size w2.heap.size,?_⟩;have e1:w2.heap=w.heap++w2.heap.extract w.heap.size w2.heap.size:=by
  apply Array.ext_getElem?;intro j;by_cases hj:j<w.heap.size;·rw[ZJI hj,h.frame j hj]
  ·rw[Array.getElem?_append_right (by omega),Array.getElem?_extract];by_cases hj2:j<w2.heap.size;·rw[ZGE (by omega)];congr 1;omega
   ·rw[ZGA (by omega),ZJV (by omega)]
 have hd:w.drawn+(w2.drawn-w.drawn)=w2.drawn:=by have :=h.drawn;omega
 obtain⟨hp,tp,dr,os,ou⟩:=w2;simp only[grow,World.drewN];simp only at e1 hd;have h1:=h.os;have h2:=h.tape;have h3:=h.output;simp only at h1 h2 h3;subst h1 h2 h3;rw[hd,←e1]
theorem bM{α:Type}[Inhabited α]{enc:α→List Value}{k blk off m:Nat}{w:World}{d:Array α}{os:Array Go.Obj}{b:Nat}(hb:b<w.heap.size):(sortWorldK enc k w blk off m d os).heap[b]?=if blk=b then(w.heap[b]?).map (onCells (Sort.putCells id off (flatK enc k d)))else w.heap[b]?:=by unfold sortWorldK;simp only[grow,putRowK,putRow,mapBlock];rw[ZJI (by simpa using hb),ZJa];rfl
theorem sY{α:Type}[Inhabited α]{enc:α→List Value}{k blk off m:Nat}{w:World}{d:Array α}{os:Array Go.Obj}:w.heap.size≤(sortWorldK enc k w blk off m d os).heap.size:=by unfold sortWorldK;simp only[grow,putRowK,putRow,mapBlock,ZJS,Array.size_modify];exact Nat.le_add_right _ _
theorem ZEG{α:Type}[Inhabited α]{enc:α→List Value}{k blk off m:Nat}{w:World}{d:Array α}{os:Array Go.Obj}:w.grownBy (sortWorldK enc k w blk off m d os) (some blk):=⟨rfl,rfl,rfl,sY,λj hj hne=>by rw[bM hj,ZGA λe=>hne (by rw[e])]⟩
theorem ZEF{F c:Array Value}(h:F.size≤c.size):(Sort.putCells id 0 F c).size=c.size∧(Sort.putCells id 0 F c).toList.take F.size=F.toList:=by
 refine⟨by simp[Sort.putCells],?_⟩;apply ZHX;intro j;rw[ZGg];split;·rename_i hj;rw[ZHG,ZHG];simp only[Sort.putCells,ZKW];rw[ZHF (by omega:j<c.size)];simp only[ZJm,ZHu,ZGu,ZKn,ZGE hj,ZIs,id];rw[ZIt F j hj,ZHF hj]
 ·rename_i hj;rw[ZHG,ZJV (by omega)]
def ZJ:Ty→Bool|.pair _ _=>true|_=>false
theorem dT{w:World}{S:Nat→Prop}{T:Ty}(h:ZJ T=true){x:T.den}{cs:List Value}(hc:BZ w S T x cs):M2 w S T x (.agg cs.toArray):=by cases T<;>simp only[ZJ,ZGh]at h;exact⟨cs.toArray,rfl,by simpa using hc⟩
theorem ZEY{α:Type}{f:α→α→Int}(h1:∀x y,f x y=-f y x)(h2:∀x y z,f x y≤0→f y z≤0→f x z≤0∧(f x z=0→f x y=0∧f y z=0)):SWO (ltOf f)where
 irrefl x:=by have :=h1 x x;simp only[ltOf,ZHm];omega
 trans x y z a b:=by
  simp only[ltOf,ZG0]at a b⊢;obtain⟨c,d⟩:=h2 x y z (by omega) (by omega);by_cases e:f x z=0;·have :=(d e).1;omega
  ·omega
 ntrans x y z a b:=by simp only[ltOf,ZHm]at a b⊢;have c1:=h1 x y;have c2:=h1 y z;have c3:=h1 x z;have :=(h2 z y x (by omega) (by omega)).1;omega
set_option maxHeartbeats 1600000 in
theorem ZEM(L:SlLaysF0.n6 P ρ){T:Ty}(hp:ZJ T=true)(aE:∀w,(isAgg (ρ.t 24)).run P w=.ok true w)(zE:∀w,(Go.sizeOf (ρ.t 24)).run P w=.ok T.size w){c:FuncId}{pre:Cz [.d T,.d T]→Prop}{f:T.den→T.den→Int}(hc:DK P (ρ.f 6))(kV:AQ P c ⟨[.d T,.d T],some pre,λx=>.d (.int .i64) (f x.1 x.2.1)⟩)(h1:∀x y,f x y=-f y x)(h2:∀x y z,f x y≤0→f y z≤0→f x z≤0∧(f x z=0→f x y=0∧f y z=0)):Sp.Ok P (ρ.f 6) (.sort T c (λa b=>pre (a,b,())) f):=by
 refine⟨hc,λxs D5 E objs l Lc g Al hL=>?_⟩;obtain⟨hlen,hpre⟩:=D5;obtain⟨L',hL',hat⟩:=g.at_ _ _ Al;rw[hL]at hL';cases hL';obtain⟨ER,AU,MP,e,cs,hcs,A4⟩:=hat;by_cases Lh:xs=[]
 ·subst Lh;have hv:Lc.v=.slice Lc.a 0 Lc.cap:=by unfold Ai.v;rw[MP];rfl
  rw[hv];refine ZH1 (AnyF.slices_SortFunc_none L Lc.a Lc.cap _ E.w) ?_;rintro e' w2⟨rfl,rfl⟩;have EW:=AE.put g (mv:=false) (o':=.row T []) (L':=Lc) (w:=E.w) (row:=none) Al hL ⟨rfl,rfl,rfl,ZGR _,λ_ _ _=>rfl⟩ (λb h=>by cases h) (λ_=>rfl) ⟨ER,AU,MP,e,cs,hcs,A4⟩ λh=>.inl ⟨h,rfl⟩;exact⟨_,E.setL E.w l Lc,[],rfl,rfl,⟨List.Perm.refl _,List.Pairwise.nil⟩,EW.1,EW.2,ZGR _,.tup rfl λj hj=>by simp at hj⟩
 ·obtain⟨h,h'⟩|⟨cur,ha,hb,hle,Be,Cd,Am,Lf⟩:=A4;·exact absurd h' Lh
  obtain⟨ds,e1,e2⟩:=iE (xs:=xs) (λx hx=>hx) hcs;have hd0:ds.length=xs.length:=by have :=ZGr List.length e1;simpa using this
  have hne:ds≠[]:=λh=>Lh (ZGY (by rw[←hd0,h];rfl));obtain⟨d0,ZFo⟩:=List.exists_mem_of_ne_nil ds hne;haveI :Inhabited (El E.w E.S T xs):=⟨d0⟩;have D6:Bp E objs Lc.b:=⟨l,_,Lc,Al,hL,by show Lc.cap≠0;omega,rfl⟩;have hnS:¬E.S Lc.b:=g.ns _ D6;have kR:Lc.b<E.w.heap.size:=(Array.getElem?_eq_some_iff.1 hb).1;obtain⟨enc,Na⟩:∃enc:El E.w E.S T xs→List Value,enc=λp=>p.1.2:=⟨_,rfl⟩;have hk:∀x,(enc x).length=T.size:=λx=>by rw[Na];exact x.2.2.length
  have IN:∀x,∀v∈enc x,v.oneCell'=true:=λx=>by rw[Na];exact x.2.2.one
  obtain⟨cf,Co⟩:∃cf:El E.w E.S T xs→El E.w E.S T xs→Int,cf=λp q=>f p.1.1 q.1.1:=⟨_,rfl⟩;have hO:SWO (ltOf cf):=ZEY (λx y=>by rw[Co];exact h1 _ _) λx y z a b=>by rw[Co]at a b⊢;exact h2 _ _ _ a b
  have hS:∀(m:Nat)(os:Array Go.Obj)(dk:Array (El E.w E.S T xs)),∀b,E.S b→E.S b∧(sortWorldK enc T.size E.w Lc.b 0 m dk os).heap[b]?=E.w.heap[b]?:=λm os dk b Qr=>⟨Qr,by rw[bM (g.sl b Qr),ZGA λe=>hnS (by rw[e];exact Qr)]⟩;have eg:∀args w,(callFunc c args).run P w=.ok (.enter c args) w:=λargs w=>WP kV.1 args w;have hC:CmpLays P c #[] enc T.size cf Lc.b 0 ds.toArray.size E.w:=by
   intro m os dk hdk x y;have O9:=kV.2 (sortWorldK enc T.size E.w Lc.b 0 m dk os) E.S (x.1.1,y.1.1,()) ⟨λb Qr=>ZIB (g.sl b Qr) sY,g.tab.mono (hS m os dk)⟩ (hpre _ x.2.1 _ y.2.1) (#[.agg (enc x).toArray,.agg (enc y).toArray]++#[]) (by
    have hx:OQ (sortWorldK enc T.size E.w Lc.b 0 m dk os) E.S [T,T] (x.1.1,y.1.1) [.agg (enc x).toArray,.agg (enc y).toArray]:=by
     refine⟨_,_,rfl,dT hp ?_,_,rfl,dT hp ?_⟩
     ·have :=x.2.2.mono (hS m os dk);have e3:enc x=x.1.2:=by rw[Na]
      rw[e3];exact this
     ·have :=y.2.2.mono (hS m os dk);have e3:enc y=y.1.2:=by rw[Na]
      rw[e3];exact this
    have IQ:AZ P ⟨sortWorldK enc T.size E.w Lc.b 0 m dk os,E.S,λ_=>none⟩ (DR [.d T,.d T] (x.1.1,y.1.1,())) [.agg (enc x).toArray,.agg (enc y).toArray]:=Su hx;simpa using IQ);refine ZH1 O9 ?_;rintro e2 w2⟨v,S2,rfl,hgr,hv⟩;have :=RX hv;subst this;exact⟨by rw[Co],ZAy hgr⟩
  have YI:=iW hk ds.toArray;simp only at YI;have MJ:(ds.map enc).flatten=cs:=by rw[Na];exact e2
  rw[MJ]at YI;have X3:cs.length=xs.length*T.size:=hcs.length;have hmul:xs.length*T.size≤Lc.cap*T.size:=ZHB _ hle;have hH:HoldsK enc T.size E.w Lc.b 0 ds.toArray:=by
   intro j hj;rw[YI]at hj⊢;have hj':j<cs.length:=by simpa using hj
   have NW:cur[j]?=cs[j]?:=by rw[←Lf,ZGg,ZGE (by omega),ZHG]
   refine⟨?_,?_⟩;·simp only[World.cell?,hb,ZGu];rw[ZIt _ j hj];simp only[id,ZIg,ZGh,ZHM,NW,ZKi,ZGU hj']
   ·simp[World.frozen?,hb]
  have YA:ds.toArray.size=xs.length:=by simpa using hd0
  have hv:Lc.v=.slice (some ⟨Lc.b,0,none⟩) ds.toArray.size Lc.cap:=by unfold Ai.v;rw[MP,ha,YA]
  rw[hv];refine ZH1 (AnyQ.slices_SortFunc L T.size aE zE enc hk IN cf hO c #[] Lc.b 0 Lc.cap ds.toArray E.w eg hC hH kR (by rw[YA];exact hlen)) ?_;rintro e' w2⟨rfl,d',n,os,UJ,Yz,rfl⟩;obtain⟨ys,FY⟩:∃ys:List T.den,ys=d'.toList.map λp=>p.1.1:=⟨_,rfl⟩;have mV:d'.size=xs.length:=by rw[UJ.1,YA]
  have MU:ys.length=xs.length:=by rw[FY,ZGM,ZGn,mV]
  have hperm:xs.Perm ys:=by have h3:=UJ.2.2;rw[show d'.extract 0 ds.toArray.size=d' from by rw[←UJ.1];exact ZKv]at h3;rw[show ds.toArray.extract 0 ds.toArray.size=ds.toArray from ZKv]at h3;have h4:=(h3.map λp=>p.1.1).symm;rw[FY];refine List.Perm.trans (.of_eq e1.symm) ?_;simpa using h4
  have ZBt:Px f ys:=by unfold Px;rw[FY,List.pairwise_map,List.pairwise_iff_getElem];intro i j hi hj hij;rw[ZGn]at hi hj;have h5:=Yz i j (ZHu _) hij (by rw[←UJ.1];exact hj);rw[ZIt d' j hj,ZIt d' i hi]at h5;simp only[ltOf,ZHm,Co]at h5;simpa using h5
  have EW:=AE.put g (mv:=false) (o':=.row T ys) (L':=Lc) (w:=sortWorldK enc T.size E.w Lc.b 0 n d' os) (row:=some Lc.b) Al hL ZEG (λb h=>by cases h;exact⟨by show Lc.cap≠0;omega,rfl⟩) (λ_=>rfl) ?_ λh=>.inl ⟨by show Lc.cap≠0;omega,rfl⟩;·exact⟨_,E.setL _ l Lc,ys,rfl,rfl,⟨hperm,ZBt⟩,EW.1,EW.2,by show E.w.drawn≤E.w.drawn+n;omega,.tup rfl λj hj=>by simp at hj⟩
  ·have ZBL:=iW hk d';have hF:(flatK enc T.size d').size=xs.length*T.size:=by rw[size_flatK,mV]
   obtain⟨p1,p2⟩:=ZEF (F:=flatK enc T.size d') (c:=cur) (by rw[hF,Am];exact hmul);refine⟨ER,AU,by rw[MP,MU],e,(d'.toList.map enc).flatten,?_,.inr ⟨Sort.putCells id 0 (flatK enc T.size d') cur,ha,?_,by rw[MU];exact hle,Be,Cd,by rw[p1];exact Am,?_⟩⟩;·rw[FY,Na];have :=eK (w':=sortWorldK enc T.size E.w Lc.b 0 n d' os) (S':=E.S) (hS n os d') d'.toList;rw[Na]at this;exact this
   ·show(sortWorldK enc T.size E.w Lc.b 0 n d' os).heap[Lc.b]?=_;rw[bM kR,ZGE rfl,hb];rfl
   ·rw[MU,←hF,p2,ZBL]
end
end Go.Proofs.YtgpdnmfpgkkgcaaGreatDoor
