/- Part of a proof that a law of the program holds for every input: what the functions answer, in plain Lean. No conditions. -/
import Derived.Shelf.SlSortCmp.NoneTotal
import Derived.Test.YtgpdnmfpgkkgcaaGreatDoorK06
namespace Go.Proofs.YtgpdnmfpgkkgcaaGreatDoor
open Go Go.Lib Go.Proofs Go.RowKit Go.Shelf Go.Sort
set_option linter.unusedVariables false
section
variable {P:Program} {ρ:Ren} {E:Env} {objs:Zat}
abbrev El(w:World)(S:Nat→Prop)(T:Ty)(xs:List T.den):Type:={p:T.den×List Value // p.1∈xs∧ZbD w S T p.1 p.2}
theorem Zux {w : World} {S : Nat → Prop} {T : Ty} {xs : List T.den} : ∀ {l : List T.den} {cs : List Value}, (∀ x ∈ l, x ∈ xs) → Z3 w S T l cs →
 ∃ ds:List (El w S T xs),ds.map (fun p=>p.1.1)=l∧(ds.map fun p=>p.1.2).flatten=cs
 | [],cs,_,h=>⟨[],rfl,(show cs=[] from h).symm⟩
 | x::l,cs,hm,⟨c1,c2,h,h1,h2⟩=>by
   obtain⟨ds,e1,e2⟩:=Zux (fun y hy=>hm y (by simp[hy])) h2
   exact⟨⟨(x,c1),hm x (by simp),h1⟩::ds,by simp[e1],by simp[e2,h]⟩
theorem Zkx {w w' : World} {S S' : Nat → Prop} {T : Ty} {xs : List T.den} (hS : ∀ b, S b → S' b ∧ w'.heap[b]? = w.heap[b]?) :
 ∀ ds:List (El w S T xs),Z3 w' S' T (ds.map fun p=>p.1.1) (ds.map fun p=>p.1.2).flatten
 | []=>rfl
 | d::ds=>⟨d.1.2,(ds.map fun p=>p.1.2).flatten,by simp,d.2.2.mono hS,Zkx hS ds⟩
theorem Zjt{α:Type}{enc:α→List Value}{k:Nat}(hk:∀ x,(enc x).length=k):∀ ds:List α,(ds.map enc).flatten.length=ds.length*k
 | []=>by simp
 | d::ds=>by simp only[List.map_cons,List.flatten_cons,List.length_append,hk,Zjt hk ds,List.length_cons,Nat.succ_mul];omega
theorem Zmo {α : Type} [Inhabited α] {enc : α → List Value} {k : Nat} (hk : ∀ x, (enc x).length = k) : ∀ (ds : List α) (t : Nat), t < ds.length * k →
 (ds.map enc).flatten[t]?=some (enc (ds.getD (t / k) default))[t % k]!
 | [],t,h=>by simp at h
 | d::ds,t,h=>by
   have k0 : 0 < k := by rcases Nat.eq_zero_or_pos k with e | e
                         ·subst e;simp at h
                         ·exact e
   simp only[List.map_cons,List.flatten_cons]
   by_cases ht:t < k
   ·rw[List.getElem?_append_left (by rw[hk];exact ht),Nat.div_eq_of_lt ht,Nat.mod_eq_of_lt ht]
    simp only[List.getD_cons_zero]
    rw[List.getElem?_eq_getElem (by rw[hk];exact ht),getElem!_pos (enc d) t (by rw[hk];exact ht)]
   ·obtain⟨u,rfl⟩:∃ u,t=u+k:=⟨t - k,by omega⟩
    rw[List.getElem?_append_right (by rw[hk];omega),hk,Nat.add_sub_cancel,Nat.add_div_right _ k0,Nat.add_mod_right,List.getD_cons_succ]
    exact Zmo hk ds u (by rw[List.length_cons,Nat.succ_mul] at h;omega)
theorem ZkC{α:Type} [Inhabited α]{enc:α→List Value}{k:Nat}(hk:∀ x,(enc x).length=k)(d:Array α):flatK enc k d=((d.toList.map enc).flatten).toArray:=by
 refine ext_get! (by simp only[size_flatK,List.size_toArray,Zjt hk];rfl) fun t ht=>?_
 have ht':t < d.size*k:=by simpa using ht
 rw[get_flatK _ _ _ t ht']
 have h:=Zmo hk d.toList t (by rw[Array.length_toList];exact ht')
 have hl:t < (d.toList.map enc).flatten.length:=by rw[Zjt hk,Array.length_toList];exact ht'
 rw[getElem!_pos _ t (by rw[List.size_toArray];exact hl)]
 rw[List.getElem?_eq_getElem hl] at h
 simp only[List.getElem_toArray]
 rw[Option.some.inj h]
 congr 2
 simp[Array.getElem!_eq_getD,Array.getD_eq_getD_getElem?,List.getD_eq_getElem?_getD]
theorem Zu0{w w2:World}{S S2:Nat→Prop}(h:ZhY w S w2 S2):∃ q os,w2=grow (w.drewN q) os:=by
 refine⟨w2.drawn - w.drawn,w2.heap.extract w.heap.size w2.heap.size,?_⟩
 have e1:w2.heap=w.heap++w2.heap.extract w.heap.size w2.heap.size:=by
  apply Array.ext_getElem?
  intro j
  by_cases hj:j < w.heap.size
  ·rw[Array.getElem?_append_left hj,h.frame j hj]
  ·rw[Array.getElem?_append_right (by omega),Array.getElem?_extract]
   by_cases hj2:j < w2.heap.size
   ·rw[if_pos (by omega)];congr 1;omega
   ·rw[if_neg (by omega),Array.getElem?_eq_none (by omega)]
 have hd:w.drawn+(w2.drawn - w.drawn)=w2.drawn:=by have:=h.drawn;omega
 obtain⟨hp,tp,dr,os,ou⟩:=w2
 simp only[grow,World.drewN]
 simp only at e1 hd
 have h1:=h.os;have h2:=h.tape;have h3:=h.output
 simp only at h1 h2 h3
 subst h1 h2 h3
 rw[hd,← e1]
theorem Zhn {α : Type} [Inhabited α] {enc : α → List Value} {k blk off m : Nat} {w : World} {d : Array α} {os : Array Go.Obj} {b : Nat} (hb : b < w.heap.size) :
 (sortWorldK enc k w blk off m d os).heap[b]?=if blk=b then (w.heap[b]?).map (onCells (Sort.putCells id off (flatK enc k d))) else w.heap[b]?:=by
 unfold sortWorldK
 simp only[grow,putRowK,putRow,mapBlock]
 rw[Array.getElem?_append_left (by simpa using hb),Array.getElem?_modify]
 rfl
theorem ZkL{α:Type} [Inhabited α]{enc:α→List Value}{k blk off m:Nat}{w:World}{d:Array α}{os:Array Go.Obj}:w.heap.size≤(sortWorldK enc k w blk off m d os).heap.size:=by
 unfold sortWorldK
 simp only[grow,putRowK,putRow,mapBlock,Array.size_append,Array.size_modify]
 exact Nat.le_add_right _ _
theorem ZnH{α:Type} [Inhabited α]{enc:α→List Value}{k blk off m:Nat}{w:World}{d:Array α}{os:Array Go.Obj}:w.grownBy (sortWorldK enc k w blk off m d os) (some blk) :=
 ⟨rfl,rfl,rfl,ZkL,fun j hj hne=>by rw[Zhn hj,if_neg (fun e=>hne (by rw[e]))]⟩
theorem Zj0{F c:Array Value}(h:F.size≤c.size):(Sort.putCells id 0 F c).size=c.size∧(Sort.putCells id 0 F c).toList.take F.size=F.toList:=by
 refine⟨by simp[Sort.putCells],?_⟩
 apply List.ext_getElem?
 intro j
 rw[List.getElem?_take]
 split
 ·rename_i hj
  rw[Array.getElem?_toList,Array.getElem?_toList]
  simp only[Sort.putCells,Array.getElem?_mapIdx]
  rw[Array.getElem?_eq_getElem (by omega:j < c.size)]
  simp only[Option.map_some,Nat.zero_le,Nat.zero_add,true_and,if_pos hj,Nat.sub_zero,id]
  rw[getElem!_pos F j hj,Array.getElem?_eq_getElem hj]
 ·rename_i hj
  rw[Array.getElem?_toList,Array.getElem?_eq_none (by omega)]
def ZsJ:Ty→Bool
 | .pair _ _=>true
 | _=>false
theorem ZkZ{w:World}{S:Nat→Prop}{T:Ty}(h:ZsJ T=true){x:T.den}{cs:List Value}(hc:ZbD w S T x cs):ZoA w S T x (.agg cs.toArray):=by
 cases T<;>simp only[ZsJ,Bool.false_eq_true] at h
 exact⟨cs.toArray,rfl,by simpa using hc⟩
theorem ZwW{α:Type}{f:α→α→Int}(h1:∀ x y,f x y=-f y x)(h2:∀ x y z,f x y≤0→f y z≤0→f x z≤0∧(f x z=0→f x y=0∧f y z=0)):SWO (ltOf f) where
 irrefl x:=by have:=h1 x x;simp only[ltOf,decide_eq_false_iff_not];omega
 trans x y z a b:=by
  simp only[ltOf,decide_eq_true_eq] at a b ⊢
  obtain⟨c,d⟩:=h2 x y z (by omega) (by omega)
  by_cases e:f x z=0
  ·have:=(d e).1;omega
  ·omega
 ntrans x y z a b:=by
  simp only[ltOf,decide_eq_false_iff_not] at a b ⊢
  have c1:=h1 x y;have c2:=h1 y z;have c3:=h1 x z
  have:=(h2 z y x (by omega) (by omega)).1
  omega
set_option maxHeartbeats 1600000 in
theorem Zvn (L : SlLaysF0.n6 P ρ) {T : Ty} (hp : ZsJ T = true) (aE : ∀ w, (isAgg (ρ.t 24)).run P w = .ok true w) (zE : ∀ w, (Go.sizeOf (ρ.t 24)).run P w = .ok T.size w) {c : FuncId} {pre : Zcs [.d T, .d T] → Prop} {f : T.den → T.den → Int}
 (hc:ZbT P (ρ.f 6)) (hcmp:ZQ P c ⟨[.d T,.d T],some pre,fun x=>.d (.int .i64) (f x.1 x.2.1)⟩) (h1:∀ x y,f x y=-f y x) (h2:∀ x y z,f x y≤0→f y z≤0→f x z≤0∧(f x z=0→f x y=0∧f y z=0)) :
 Sp.Ok P (ρ.f 6) (.sort T c (fun a b=>pre (a,b,())) f):=by
 refine⟨hc,fun xs hob E objs l Lc g hobj hL=>?_⟩
 obtain⟨hlen,hpre⟩:=hob
 obtain⟨L',hL',hat⟩:=g.at_ _ _ hobj
 rw[hL] at hL';cases hL'
 obtain⟨hesz,hpos,hln,e,cs,hcs,hmem⟩:=hat
 by_cases hxs:xs=[]
 ·subst hxs
  have hv:Lc.v=.slice Lc.a 0 Lc.cap:=by unfold Loc.v;rw[hln];rfl
  rw[hv]
  refine Calls.mono (AnyF.slices_SortFunc_none L Lc.a Lc.cap _ E.w) ?_
  rintro e' w2 ⟨rfl,rfl⟩
  have hput:=Z7.put g (mv:=false) (o':=.row T []) (L':=Lc) (w:=E.w) (row:=none) hobj hL ⟨rfl,rfl,rfl,Nat.le_refl _,fun _ _ _=>rfl⟩ (fun b h=>by cases h) (fun _=>rfl) ⟨hesz,hpos,hln,e,cs,hcs,hmem⟩ (fun h=>.inl ⟨h,rfl⟩)
  exact⟨_,E.setL E.w l Lc,[],rfl,rfl,⟨List.Perm.refl _,List.Pairwise.nil⟩,hput.1,hput.2,Nat.le_refl _,.tup rfl (fun j hj=>by simp at hj)⟩
 ·obtain⟨h,h'⟩ | ⟨cur,ha,hb,hle,hc0,hcm,hsz,htk⟩:=hmem
  ·exact absurd h' hxs
  obtain⟨ds,e1,e2⟩:=Zux (xs:=xs) (fun x hx=>hx) hcs
  have hd0:ds.length=xs.length:=by have:=congrArg List.length e1;simpa using this
  have hne:ds≠[]:=fun h=>hxs (List.eq_nil_of_length_eq_zero (by rw[← hd0,h];rfl))
  obtain⟨d0,hd0m⟩:=List.exists_mem_of_ne_nil ds hne
  haveI:Inhabited (El E.w E.S T xs):=⟨d0⟩
  have hown:ZdI E objs Lc.b:=⟨l,_,Lc,hobj,hL,by show Lc.cap≠0;omega,rfl⟩
  have hnS:¬ E.S Lc.b:=g.ns _ hown
  have hblk:Lc.b < E.w.heap.size:=(Array.getElem?_eq_some_iff.1 hb).1
  obtain⟨enc,henc⟩:∃ enc:El E.w E.S T xs→List Value,enc=fun p=>p.1.2:=⟨_,rfl⟩
  have hk:∀ x,(enc x).length=T.size:=fun x=>by rw[henc];exact x.2.2.length
  have hone:∀ x,∀ v∈enc x,v.oneCell'=true:=fun x=>by rw[henc];exact x.2.2.one
  obtain⟨cf,hcf⟩:∃ cf:El E.w E.S T xs→El E.w E.S T xs→Int,cf=fun p q=>f p.1.1 q.1.1:=⟨_,rfl⟩
  have hO:SWO (ltOf cf):=ZwW (fun x y=>by rw[hcf];exact h1 _ _) (fun x y z a b=>by rw[hcf] at a b ⊢;exact h2 _ _ _ a b)
  have hS:∀ (m:Nat) (os:Array Go.Obj) (dk:Array (El E.w E.S T xs)),∀ b,E.S b→E.S b∧(sortWorldK enc T.size E.w Lc.b 0 m dk os).heap[b]?=E.w.heap[b]?:=fun m os dk b hSb =>
   ⟨hSb,by rw[Zhn (g.sl b hSb),if_neg (fun e=>hnS (by rw[e];exact hSb))]⟩
  have eg:∀ args w,(callFunc c args).run P w=.ok (.enter c args) w:=fun args w=>Zfh hcmp.1 args w
  have hC:CmpLays P c #[] enc T.size cf Lc.b 0 ds.toArray.size E.w:=by
   intro m os dk hdk x y
   have hcall:=hcmp.2 (sortWorldK enc T.size E.w Lc.b 0 m dk os) E.S (x.1.1,y.1.1,()) ⟨fun b hSb=>Nat.lt_of_lt_of_le (g.sl b hSb) ZkL,g.tab.mono (hS m os dk)⟩ (hpre _ x.2.1 _ y.2.1)
    (#[.agg (enc x).toArray,.agg (enc y).toArray]++#[]) (by
     have hx:Zka (sortWorldK enc T.size E.w Lc.b 0 m dk os) E.S [T,T] (x.1.1,y.1.1) [.agg (enc x).toArray,.agg (enc y).toArray]:=by
      refine⟨_,_,rfl,ZkZ hp ?_,_,rfl,ZkZ hp ?_⟩
      ·have:=x.2.2.mono (hS m os dk)
       have e3:enc x=x.1.2:=by rw[henc]
       rw[e3];exact this
      ·have:=y.2.2.mono (hS m os dk)
       have e3:enc y=y.1.2:=by rw[henc]
       rw[e3];exact this
     have hrep:Zby P ⟨sortWorldK enc T.size E.w Lc.b 0 m dk os,E.S,fun _=>none⟩ (Zj2 [.d T,.d T] (x.1.1,y.1.1,())) [.agg (enc x).toArray,.agg (enc y).toArray]:=Zib hx
     simpa using hrep)
   refine Calls.mono hcall ?_
   rintro e2 w2 ⟨v,S2,rfl,hgr,hv⟩
   have:=Zgz hv
   subst this
   exact⟨by rw[hcf],Zu0 hgr⟩
  have hflat:=ZkC hk ds.toArray
  simp only at hflat
  have hfl:(ds.map enc).flatten=cs:=by rw[henc];exact e2
  rw[hfl] at hflat
  have hcsl:cs.length=xs.length*T.size:=hcs.length
  have hmul:xs.length*T.size≤Lc.cap*T.size:=Nat.mul_le_mul_right _ hle
  have hH:HoldsK enc T.size E.w Lc.b 0 ds.toArray:=by
   intro j hj
   rw[hflat] at hj ⊢
   have hj':j < cs.length:=by simpa using hj
   have hcur:cur[j]?=cs[j]?:=by
    rw[← htk,List.getElem?_take,if_pos (by omega),Array.getElem?_toList]
   refine⟨?_,?_⟩
   ·simp only[World.cell?,hb,Nat.zero_add]
    rw[getElem!_pos _ j hj]
    simp only[id,Option.isSome_none,Bool.false_eq_true,if_false,hcur,List.getElem_toArray,List.getElem?_eq_getElem hj']
   ·simp[World.frozen?,hb]
  have hdsz:ds.toArray.size=xs.length:=by simpa using hd0
  have hv:Lc.v=.slice (some ⟨Lc.b,0,none⟩) ds.toArray.size Lc.cap:=by unfold Loc.v;rw[hln,ha,hdsz]
  rw[hv]
  refine Calls.mono (AnyQ.slices_SortFunc L T.size aE zE enc hk hone cf hO c #[] Lc.b 0 Lc.cap ds.toArray E.w eg hC hH hblk (by rw[hdsz];exact hlen)) ?_
  rintro e' w2 ⟨rfl,d',n,os,hpm,hso,rfl⟩
  obtain⟨ys,hys⟩:∃ ys:List T.den,ys=d'.toList.map fun p=>p.1.1:=⟨_,rfl⟩
  have hsz':d'.size=xs.length:=by rw[hpm.1,hdsz]
  have hyl:ys.length=xs.length:=by rw[hys,List.length_map,Array.length_toList,hsz']
  have hperm:xs.Perm ys:=by
   have h3:=hpm.2.2
   rw[show d'.extract 0 ds.toArray.size=d' from by rw[← hpm.1];exact Array.extract_size] at h3
   rw[show ds.toArray.extract 0 ds.toArray.size=ds.toArray from Array.extract_size] at h3
   have h4:=(h3.map fun p=>p.1.1).symm
   rw[hys]
   refine List.Perm.trans (.of_eq e1.symm) ?_
   simpa using h4
  have hsorted:Zfy f ys:=by
   unfold Zfy
   rw[hys,List.pairwise_map,List.pairwise_iff_getElem]
   intro i j hi hj hij
   rw[Array.length_toList] at hi hj
   have h5:=hso i j (Nat.zero_le _) hij (by rw[← hpm.1];exact hj)
   rw[getElem!_pos d' j hj,getElem!_pos d' i hi] at h5
   simp only[ltOf,decide_eq_false_iff_not,hcf] at h5
   simpa using h5
  have hput:=Z7.put g (mv:=false) (o':=.row T ys) (L':=Lc) (w:=sortWorldK enc T.size E.w Lc.b 0 n d' os) (row:=some Lc.b) hobj hL ZnH (fun b h=>by cases h;exact⟨by show Lc.cap≠0;omega,rfl⟩) (fun _=>rfl) ?_ (fun h=>.inl ⟨by show Lc.cap≠0;omega,rfl⟩)
  ·exact⟨_,E.setL _ l Lc,ys,rfl,rfl,⟨hperm,hsorted⟩,hput.1,hput.2,by show E.w.drawn≤E.w.drawn+n;omega,.tup rfl (fun j hj=>by simp at hj)⟩
  ·have hflat':=ZkC hk d'
   have hF:(flatK enc T.size d').size=xs.length*T.size:=by rw[size_flatK,hsz']
   obtain⟨p1,p2⟩:=Zj0 (F:=flatK enc T.size d') (c:=cur) (by rw[hF,hsz];exact hmul)
   refine⟨hesz,hpos,by rw[hln,hyl],e,(d'.toList.map enc).flatten,?_,.inr ⟨Sort.putCells id 0 (flatK enc T.size d') cur,ha,?_,by rw[hyl];exact hle,hc0,hcm,by rw[p1];exact hsz,?_⟩⟩
   ·rw[hys,henc]
    have:=Zkx (w':=sortWorldK enc T.size E.w Lc.b 0 n d' os) (S':=E.S) (hS n os d') d'.toList
    rw[henc] at this
    exact this
   ·show (sortWorldK enc T.size E.w Lc.b 0 n d' os).heap[Lc.b]?=_
    rw[Zhn hblk,if_pos rfl,hb];rfl
   ·rw[hyl,← hF,p2,hflat']
end
end Go.Proofs.YtgpdnmfpgkkgcaaGreatDoor
