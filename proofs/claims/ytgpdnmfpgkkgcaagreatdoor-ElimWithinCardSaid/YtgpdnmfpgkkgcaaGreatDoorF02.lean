/- Part of a proof that a law of the program holds for every input: how abstract states follow the program. No conditions. -/
import Derived.Test.YtgpdnmfpgkkgcaaGreatDoorF01
namespace Go.Proofs.YtgpdnmfpgkkgcaaGreatDoor
open Go
set_option linter.defProp false
def ZGB:=@decide_eq_true
def ZGF:=@decide_eq_false
def ZGf:=@List.length_filter_le
def ZHW:=@Classical.byContradiction
def ZHb:=@List.cons_append
def ZHh:=@Bool.false_or
def ZHm:=@decide_eq_false_iff_not
def ZH7:=@Option.some.inj
def ZIa:=@Go.callsIn_of_wp_marks
def ZIk:=@List.cons.inj
def ZIn:=@List.getElem?_of_mem
def ZI7:=@List.take_add_one
def ZJV:=@Array.getElem?_eq_none
def ZJl:=@List.pairwise_append
def ZKL:=@List.getElem?_replicate
def ZKT:=@Prod.mk.inj
def ZKZ:=@List.drop_drop
def ZK1:=@List.append_of_mem
set_option linter.unusedSimpArgs false
set_option linter.unusedVariables false
section
variable {P : Program}
def I2(l:Nat):List Nat→Nat→Option Nat|[],_=>none|k::r,i=>match Nat.beq k l with|true=>some i|false=>I2 l r (i+1)
theorem UW{l:Nat}:∀{ks:List Nat}{n i:Nat},I2 l ks n=some i→n≤i∧ks[i-n]?=some l
 |[],_,_,h=>by cases h|k::r,n,i,h=>by
  simp only[I2]at h;split at h;·rename_i e;cases h;exact⟨ZGR _,by simp[ZGJ e]⟩
  ·obtain⟨h1,h2⟩:=UW h;refine⟨by omega,?_⟩;rw[show i-n=i-(n+1)+1 from by omega];simpa using h2
theorem nI{l:Nat}:∀{ks:List Nat}{n:Nat},I2 l ks n=none→l∉ks
 |[],_,_=>by simp|k::r,n,h=>by
  simp only[I2]at h;split at h;·cases h
  ·rename_i e;simp only[ZGe,ZGx];exact⟨λe'=>ZHZ e e'.symm,nI h⟩
theorem ZA{l i:Nat}{ks:List Nat}(hn:ks.Nodup)(h:ks[i]?=some l):I2 l ks 0=some i:=by cases e:I2 l ks 0 with|none=>exact absurd (ZHf h) (nI e)|some j=>obtain⟨_,h2⟩:=UW e;rw[ZIs]at h2;have hi:=(List.getElem?_eq_some_iff.1 h).1;have hj:=(List.getElem?_eq_some_iff.1 h2).1;congr 1;exact(List.getElem_inj hn).1 (by rw[(List.getElem?_eq_some_iff.1 h).2,(List.getElem?_eq_some_iff.1 h2).2])
def V.rekey(k:Nat):V→V|.ref _ o=>.ref k o|.rref _ i o=>.rref k i o|.osl _=>.osl k|.osp _ lo n=>.osp k lo n|.map _=>.map k|.yl _=>.yl k|.bsl _ n=>.bsl k n|v=>v
def Jh(ks:List Nat)(v:V):V:=match v.key with
 |some l=>match I2 l ks 0 with|some i=>v.rekey i|none=>.any
 |none=>v
def Mp(ks:List Nat)(v:V):V:=match v.key with
 |some i=>match ks[i]? with|some l=>v.rekey l|none=>.any
 |none=>v
theorem rT{E E':AF}{v:V}{c:Value}{l k:Nat}(hk:v.key=some l)(h:∀L,E.loc l=some L→E'.loc k=some L)(r:AC P E v c):AC P E' (v.rekey k) c:=by
 cases r<;>simp only[V.key,ZHl,reduceCtorEq]at hk<;>subst hk;·rename_i h1;exact .ref (h _ h1)
 ·rename_i h1;exact .rref (h _ h1)
 ·rename_i h1;exact .osl (h _ h1)
 ·rename_i h1 hp;exact .osp (h _ h1) hp
 ·rename_i h1;exact .map (h _ h1)
 ·rename_i h1;exact .yl (h _ h1)
 ·rename_i h1;exact .bsl (h _ h1)
theorem ZEy{E E':AF}{ks:List Nat}(hS:∀b,E.S b→E'.S b∧E'.w.heap[b]?=E.w.heap[b]?)(hl:∀i l,ks[i]?=some l→∀L,E.loc l=some L→E'.loc i=some L){v:V}{c:Value}(r:AC P E v c):AC P E' (v.subst (Jh ks)) c:=by
 refine K6 hS (λv c hr r=>?_) r;unfold Jh;split
 ·rename_i l hk;split;·rename_i i hi;obtain⟨_,h2⟩:=UW hi;exact rT hk (hl i l (by simpa using h2)) r
  ·exact .any _
 ·rename_i hk;cases r<;>simp only[V.isRef,ZGh]at hr<;>simp only[V.key,reduceCtorEq]at hk
theorem ZDw{E E':AF}{ks:List Nat}(hS:∀b,E.S b→E'.S b∧E'.w.heap[b]?=E.w.heap[b]?)(hl:∀i l,ks[i]?=some l→∀L,E.loc i=some L→E'.loc l=some L){v:V}{c:Value}(r:AC P E v c):AC P E' (v.subst (Mp ks)) c:=by
 refine K6 hS (λv c hr r=>?_) r;unfold Mp;split
 ·rename_i i hk;split;·rename_i l hi;exact rT hk (hl i l hi) r
  ·exact .any _
 ·rename_i hk;cases r<;>simp only[V.isRef,ZGh]at hr<;>simp only[V.key,reduceCtorEq]at hk
structure Ih where
 α:Type
 β:Type
 rs:List Ty
 k:Nat
 vals:α→List V
 objs:β→AH
 get:List V→AH→Option (List Nat×α×β)
 back:AH→Option β
 pre:α→β→Prop
 post:α→β→Bq rs→β→Prop
 ch:List Nat
 mv:List Nat
structure Ih.Law(R:Ih):Prop where
 get:∀vs os ks a b,R.get vs os=some (ks,a,b)→DI (Jh ks) vs=R.vals a∧ks.length=R.k∧ks.Nodup∧∀i l,ks[i]?=some l→∃o,AB l os=some o∧AB i (R.objs b)=some (o.subst (Jh ks))∧(i∉R.ch→(o.subst (Jh ks)).subst (Mp ks)=o)
 dom:∀b i o,AB i (R.objs b)=some o→i<R.k
 back:∀os b,R.back os=some b→∀i,i<R.k→AB i os=AB i (R.objs b)
 same:∀b b' i,i∉R.ch→AB i (R.objs b')=AB i (R.objs b)
 ch:∀i∈R.ch,i<R.k
 mv:∀i∈R.mv,i∈R.ch
def Lo(ks:List Nat)(os:AH):List Nat→AH|[]=>[]|i::r=>match ks[i]? with
 |some l=>match AB i os with|some o=>(l,o.subst (Mp ks))::Lo ks os r|none=>Lo ks os r
 |none=>Lo ks os r
def Ff(ks:List Nat):List Nat→List Nat|[]=>[]|i::r=>match ks[i]? with|some l=>l::Ff ks r|none=>Ff ks r
def VX(M:List Nat)(objs:AH):AH:=match M with|[]=>objs|l::r=>substO (Gy (l::r)) objs
def FJ(R:Ih)(ks:List Nat)(b:R.β)(objs:AH):AH:=Lo ks (R.objs b) R.ch++VX (Ff ks R.mv) objs
theorem Oy{l:Nat}:∀{a b:AH},AB l (a++b)=match AB l a with|some o=>some o|none=>AB l b
 |[],_=>rfl|(k,o)::r,b=>by
  rw[ZHb,BA,BA];split;·rfl
  ·exact Oy
theorem Uy{ks:List Nat}{os:AH}{l:Nat}{o:Obj}:∀{ch:List Nat},AB l (Lo ks os ch)=some o→∃i∈ch,ks[i]?=some l∧∃q,AB i os=some q∧o=q.subst (Mp ks)
 |[],h=>by cases h|i::r,h=>by
  simp only[Lo]at h;have rec':AB l (Lo ks os r)=some o→∃j∈i::r,ks[j]?=some l∧∃q,AB j os=some q∧o=q.subst (Mp ks):=λh=>by obtain⟨j,h1,h2⟩:=Uy h;exact⟨j,ZGK _ h1,h2⟩
  split at h
  ·rename_i l' hl;split at h
   ·rename_i q hq;rw[BA]at h;split at h;·rename_i e;subst e;cases h;exact⟨i,by simp,hl,q,hq,rfl⟩
    ·exact rec' h
   ·exact rec' h
  ·exact rec' h
theorem Ux{ks:List Nat}{os:AH}{l:Nat}:∀{ch:List Nat},AB l (Lo ks os ch)=none→∀i∈ch,ks[i]?=some l→AB i os=none
 |[],_,i,hi,_=>by simp at hi|j::r,h,i,hi,hl=>by
  simp only[Lo]at h;rcases List.mem_cons.1 hi with rfl|hi
  ·rw[hl]at h;simp only at h;split at h;·rw[BA,ZGE rfl]at h;cases h
   ·assumption
  ·split at h
   ·split at h
    ·rw[BA]at h;split at h;·cases h
     ·exact Ux h i hi hl
    ·exact Ux h i hi hl
   ·exact Ux h i hi hl
theorem Ut{ks:List Nat}{l:Nat}:∀{mv:List Nat},l∈Ff ks mv↔∃i∈mv,ks[i]?=some l
 |[]=>by simp[Ff]|i::r=>by
  simp only[Ff];split
  ·rename_i k hk;rw[ZGe,Ut (mv:=r)];constructor
   ·rintro(rfl|⟨j,h1,h2⟩);·exact⟨i,by simp,hk⟩
    ·exact⟨j,ZGK _ h1,h2⟩
   ·rintro⟨j,h1,h2⟩;rcases List.mem_cons.1 h1 with rfl|h1;·rw[hk]at h2;cases h2;exact .inl rfl
    ·exact .inr ⟨j,h1,h2⟩
  ·rename_i hk;rw[Ut (mv:=r)];constructor;·rintro⟨j,h1,h2⟩;exact⟨j,ZGK _ h1,h2⟩
   ·rintro⟨j,h1,h2⟩;rcases List.mem_cons.1 h1 with rfl|h1;·rw[hk]at h2;cases h2
    ·exact⟨j,h1,h2⟩
theorem VY{M:List Nat}{objs:AH}{l:Nat}:AB l (VX M objs)=(AB l objs).map λq=>match M with|[]=>q|m::r=>q.subst (Gy (m::r)):=by cases M with|nil=>simp only[VX,Option.map_id_fun',id_eq]|cons m r=>simp only[VX,JN]
def Gz(ks:List Nat)(E:AF):AF:=⟨E.w,E.S,λi=>match ks[i]? with|some l=>E.loc l|none=>none⟩
def Gl(ks:List Nat)(E E2:AF):AF:=⟨E2.w,E2.S,λl=>match I2 l ks 0 with|some i=>E2.loc i|none=>E.loc l⟩
theorem pA{E:AF}{ks:List Nat}{v:V}{c:Value}(r:AC P E v c):AC P (Gz ks E) (v.subst (Jh ks)) c:=ZEy (E:=E) (E':=Gz ks E) (λb h=>⟨h,rfl⟩) (λi l h L hL=>by simp only[Gz,h];exact hL) r
theorem rR{R:Ih}(hl:R.Law){E:AF}{objs:AH}{vs:List V}{ks:List Nat}{a:R.α}{b:R.β}(g:AE P E objs)(hg:R.get vs objs=some (ks,a,b)):AE P (Gz ks E) (R.objs b)∧(∀l,R.k≤l→(Gz ks E).loc l=none)∧∀{cs:List Value},AZ P E vs cs→AZ P (Gz ks E) (R.vals a) cs:=by
 obtain⟨h1,h2,h3,h4⟩:=hl.get _ _ _ _ _ hg;have BR:∀i o,AB i (R.objs b)=some o→∃l q,ks[i]?=some l∧AB l objs=some q∧o=q.subst (Jh ks):=λi o h=>by have hi:=hl.dom b i o h;have hk:ks[i]?=some ks[i]:=ZGU (by omega);obtain⟨q,k1,k2,_⟩:=h4 i _ hk;rw[h]at k2;cases k2;exact⟨_,q,hk,k1,rfl⟩
 have MQ:∀i l,ks[i]?=some l→(Gz ks E).loc i=E.loc l:=λi l h=>by simp only[Gz,h]
 refine⟨⟨λi o h=>?_,λc h=>?_,g.sl,g.tab,λi j o o' L L' k1 k2 k3 k4 k5 k6 k7=>?_⟩,λl h=>?_,λ{cs}r=>?_⟩;·obtain⟨l,q,e1,e2,rfl⟩:=BR i o h;obtain⟨L,hL,ha⟩:=g.at_ l q e2;exact⟨L,by rw[MQ i l e1];exact hL,ha.keepS (λv c r=>pA r) (λb hb=>⟨hb,rfl⟩) λ_=>rfl⟩
 ·obtain⟨i,o,L,k1,k2,k3,k4⟩:=h;obtain⟨l,q,e1,e2,rfl⟩:=BR i o k1;rw[MQ i l e1]at k2;exact g.ns c ⟨l,q,L,e2,k2,Obj.has_subst.1 k3,k4⟩
 ·obtain⟨l,q,e1,e2,rfl⟩:=BR i o k1;obtain⟨l',q',f1,f2,rfl⟩:=BR j o' k2;rw[MQ i l e1]at k3;rw[MQ j l' f1]at k4;have :=g.inj l l' q q' L L' e2 f2 k3 k4 (Obj.has_subst.1 k5) (Obj.has_subst.1 k6) k7;subst this;have x1:=ZA h3 e1;rw[ZA h3 f1]at x1;exact(ZH7 x1).symm
 ·simp only[Gz];rw[ZHL (by omega)]
 ·rw[←h1];exact reps_subst' (λv c h=>pA h) r where reps_subst'{E E':AF}{f:V→V}(h:∀v c,AC P E v c→AC P E' (v.subst f) c){vs:List V}{cs:List Value}(r:AZ P E vs cs):AZ P E' (DI f vs) cs:=⟨by rw[Jf,ZGM];exact r.1,λj hj=>by rw[Jf,ZGM]at hj;rw[K5 hj];exact h _ _ (r.2 j hj)⟩
theorem ZDj{R:Ih}(hl:R.Law){E E2:AF}{objs Hz:AH}{vs:List V}{ks M:List Nat}{a:R.α}{b b':R.β}(g:AE P E objs)(hg:R.get vs objs=some (ks,a,b))(g2:AE P E2 Hz)(st:BL (Gz ks E) (R.objs b) E2 Hz M)(hM:∀i∈M,i∈R.mv)(hb:R.back Hz=some b'):AE P (Gl ks E E2) (FJ R ks b' objs)∧BL E objs (Gl ks E E2) (FJ R ks b' objs) (Ff ks R.mv):=by
 obtain⟨gl,_,_⟩:=rR hl g hg;obtain⟨h1,h2,h3,h4⟩:=hl.get _ _ _ _ _ hg;have MQ:∀i l,ks[i]?=some l→(Gz ks E).loc i=E.loc l:=λi l h=>by simp only[Gz,h]
 have YN:∀i l,ks[i]?=some l→(Gl ks E E2).loc l=E2.loc i:=λi l h=>by simp only[Gl,ZA h3 h]
 have YM:∀l,l∉ks→(Gl ks E E2).loc l=E.loc l:=λl h=>by
  simp only[Gl];split;·rename_i i hi;obtain⟨_,k⟩:=UW hi;exact absurd (ZHf k) h
  ·rfl
 have Ab:∀{i l:Nat},ks[i]?=some l→i<R.k:=λh=>by have :=(List.getElem?_eq_some_iff.1 h).1;omega
 have Yj:∀i l,ks[i]?=some l→AB i Hz=AB i (R.objs b'):=λi l h=>hl.back _ _ hb i (Ab h);have hex:∀i l,ks[i]?=some l→∃o,AB i (R.objs b')=some o:=λi l h=>by cases e:AB i (R.objs b')with|some o=>exact⟨o,rfl⟩|none=>have :=st.keys i (by rw[Yj i l h,e]);obtain⟨o,_,k,_⟩:=h4 i l h;rw[k]at this;cases this
 have hlE:∀i l,ks[i]?=some l→∃o L,AB l objs=some o∧E.loc l=some L:=λi l h=>by obtain⟨o,k,_⟩:=h4 i l h;obtain⟨L,hL,_⟩:=g.at_ l o k;exact⟨o,L,k,hL⟩
 have hx:CK E (Gl ks E E2) (Ff ks R.mv):=⟨λc hc=>st.ext.S c hc,λl L hn hL=>by
  by_cases hm:l∈ks;·obtain⟨i,hi⟩:=List.mem_iff_getElem?.1 hm;rw[YN i l hi];refine st.ext.loc i L (λh=>hn (Ut.2 ⟨i,hM i h,hi⟩)) ?_;rw[MQ i l hi];exact hL
  ·rw[YM l hm];exact hL⟩;have UH:∀l q L,l∉ks→AB l objs=some q→E.loc l=some L→q.has L→¬Bp (Gz ks E) (R.objs b) L.b:=λl q L hn hq hL hh⟨i,o,K,k1,k2,k3,k4⟩=>by have hi:=hl.dom b i o k1;have hk:ks[i]?=some ks[i]:=ZGU (by omega);obtain⟨q',e1,e2,_⟩:=h4 i _ hk;rw[k1]at e2;cases e2;rw[MQ i _ hk]at k2;have :=g.inj _ l q' q K L e1 hq k2 hL (Obj.has_subst.1 k3) hh k4;subst this;exact hn (ZHf hk)
 have ZBc:∀l q L,AB l objs=some q→E.loc l=some L→q.has L→L.b<E.w.heap.size:=λl q L hq hL hh=>g.own_lt ⟨l,q,L,hq,hL,hh,rfl⟩;have hcase:∀l o,AB l (FJ R ks b' objs)=some o→(∃i q L,ks[i]?=some l∧AB i Hz=some q∧E2.loc i=some L∧(Gl ks E E2).loc l=some L∧(o.has L↔q.has L)∧Ay P (Gl ks E E2) L o)∨l∉ks∧∃q L,AB l objs=some q∧E.loc l=some L∧(Gl ks E E2).loc l=some L∧(o.has L↔q.has L)∧Ay P (Gl ks E E2) L o:=by
  intro l o h;have O9:∀i q,ks[i]?=some l→AB i Hz=some q→∃L,E2.loc i=some L∧(Gl ks E E2).loc l=some L∧Ay P (Gl ks E E2) L (q.subst (Mp ks)):=λi q hi hq=>by obtain⟨L,hL,ha⟩:=g2.at_ i q hq;refine⟨L,hL,by rw[YN i l hi];exact hL,ha.keepS (λv c r=>ZDw (E:=E2) (E':=Gl ks E E2) (λb hb=>⟨hb,rfl⟩) (λj m hj K hK=>by rw[YN j m hj];exact hK) r) (λb hb=>⟨hb,rfl⟩) λ_=>rfl⟩
  simp only[FJ]at h;rw[Oy]at h;split at h;·rename_i o' hn;cases h;obtain⟨i,hi,hk,q,hq,rfl⟩:=Uy hn;rw[←Yj i l hk]at hq;obtain⟨L,k1,k2,k3⟩:=O9 i q hk hq;exact .inl ⟨i,q,L,hk,hq,k1,k2,Obj.has_subst,k3⟩
  ·rename_i hn;rw[VY,ZGo]at h;obtain⟨q,hq,ho⟩:=h;by_cases hm:l∈ks
   ·obtain⟨i,hi⟩:=List.mem_iff_getElem?.1 hm;obtain⟨q',k1,k2,k3⟩:=h4 i l hi;rw[hq]at k1;cases k1;have kT:i∉R.ch:=λhc=>by have :=Ux hn i hc hi;obtain⟨o',ho'⟩:=hex i l hi;rw[this]at ho';cases ho'
    have k2':AB i Hz=some (q.subst (Jh ks)):=by rw[Yj i l hi,hl.same b b' i kT,k2]
    obtain⟨L,e1,e2,e3⟩:=O9 i _ hi k2';rw[k3 kT]at e3;refine .inl ⟨i,_,L,hi,k2',e1,e2,?_,?_⟩;·rw[←ho];cases Ff ks R.mv with|nil=>exact Obj.has_subst.symm|cons m r=>exact Obj.has_subst.trans Obj.has_subst.symm
    ·rw[←ho];cases Ff ks R.mv with|nil=>exact e3|cons m r=>exact e3.keepS (λv c r=>ZH (.refl _ _) r) (λb hb=>⟨hb,rfl⟩) λ_=>rfl
   ·obtain⟨L,hL,ha⟩:=g.at_ l q hq;have Du:q.has L→(Gl ks E E2).w.heap[L.b]?=E.w.heap[L.b]?:=λhh=>st.frame _ (ZBc l q L hq hL hh) (UH l q L hm hq hL hh);refine .inr ⟨hm,q,L,hq,hL,by rw[YM l hm];exact hL,?_,?_⟩;·rw[←ho];cases Ff ks R.mv with|nil=>exact ZJC|cons m r=>exact Obj.has_subst
    ·rw[←ho];revert hx;cases Ff ks R.mv with|nil=>exact λhx=>ha.keep hx Du|cons m r=>exact λhx=>ha.keepS (λv c r=>ZH hx r) hx.S Du
 have Yo:∀c,Bp (Gz ks E) (R.objs b) c→Bp E objs c:=λc⟨i,o,K,k1,k2,k3,k4⟩=>by have hi:=hl.dom b i o k1;have hk:ks[i]?=some ks[i]:=ZGU (by omega);obtain⟨q',e1,e2,_⟩:=h4 i _ hk;rw[k1]at e2;cases e2;rw[MQ i _ hk]at k2;exact⟨_,q',K,e1,k2,Obj.has_subst.1 k3,k4⟩
 have D6:∀c,Bp (Gl ks E E2) (FJ R ks b' objs) c→Bp E2 Hz c∨Bp E objs c∧¬Bp (Gz ks E) (R.objs b) c:=λc⟨l,o,L,k1,k2,k3,k4⟩=>by
  rcases hcase l o k1 with⟨i,q,K,e1,e2,e3,e4,e5,_⟩|⟨hm,q,K,e2,e3,e4,e5,_⟩;·rw[k2]at e4;cases e4;exact .inl ⟨i,q,L,e2,e3,e5.1 k3,k4⟩
  ·rw[k2]at e4;cases e4;exact .inr ⟨⟨l,q,L,e2,e3,e5.1 k3,k4⟩,by rw[←k4];exact UH l q L hm e2 e3 (e5.1 k3)⟩
 have lB:∀c,Bp E2 Hz c→Bp E objs c→¬Bp (Gz ks E) (R.objs b) c→False:=λc k1 k2 k3=>by
  rcases st.own c k1 with h|h;·have :=g.own_lt k2;have h:E.w.heap.size≤c:=h;omega
  ·exact k3 h
 refine⟨⟨λl o h=>?_,λc h hs=>?_,g2.sl,g2.tab,λl l' o o' L L' k1 k2 k3 k4 k5 k6 k7=>?_⟩,⟨hx,st.os,st.tape,st.output,st.size,λc hc hn=>st.frame c hc λh=>hn (Yo c h),λc h=>?_,λc h=>?_,λl h=>?_,λl h=>?_⟩⟩
 ·rcases hcase l o h with⟨i,q,L,e1,e2,e3,e4,e5,e6⟩|⟨hm,q,L,e2,e3,e4,e5,e6⟩;·exact⟨L,e4,e6⟩
  ·exact⟨L,e4,e6⟩
 ·rcases D6 c h with h|⟨h,hn⟩;·exact g2.ns c h hs
  ·rcases st.st c hs with k|k|k;·exact g.ns c h k
   ·have :=g.own_lt h;have k:E.w.heap.size≤c:=k;omega
   ·exact hn k
 ·rcases hcase l o k1 with⟨i,q,K,e1,e2,e3,e4,e5,_⟩|⟨hm,q,K,e2,e3,e4,e5,_⟩
  ·rw[k3]at e4;cases e4;rcases hcase l' o' k2 with⟨i',q',K',f1,f2,f3,f4,f5,_⟩|⟨hm',q',K',f2,f3,f4,f5,_⟩;·rw[k4]at f4;cases f4;have :=g2.inj i i' q q' L L' e2 f2 e3 f3 (e5.1 k5) (f5.1 k6) k7;subst this;rw[e1]at f1;cases f1;rfl
   ·rw[k4]at f4;cases f4;exact(lB L.b ⟨i,q,L,e2,e3,e5.1 k5,rfl⟩ ⟨l',q',L',f2,f3,f5.1 k6,k7.symm⟩ (by rw[k7];exact UH l' q' L' hm' f2 f3 (f5.1 k6))).elim
  ·rw[k3]at e4;cases e4;rcases hcase l' o' k2 with⟨i',q',K',f1,f2,f3,f4,f5,_⟩|⟨hm',q',K',f2,f3,f4,f5,_⟩;·rw[k4]at f4;cases f4;exact(lB L'.b ⟨i',q',L',f2,f3,f5.1 k6,rfl⟩ ⟨l,q,L,e2,e3,e5.1 k5,k7⟩ (by rw[←k7];exact UH l q L hm e2 e3 (e5.1 k5))).elim
   ·rw[k4]at f4;cases f4;exact g.inj l l' q q' L L' e2 f2 e3 f3 (e5.1 k5) (f5.1 k6) k7
 ·rcases D6 c h with h|⟨h,_⟩;·exact(st.own c h).imp id (Yo c)
  ·exact .inr h
 ·rcases st.st c h with k|k|k;·exact .inl k
  ·exact .inr (.inl k)
  ·exact .inr (.inr (Yo c k))
 ·have hh:AB l (FJ R ks b' objs)=none:=h;simp only[FJ,Oy]at hh;split at hh;·cases hh
  ·rw[VY]at hh;cases e:AB l objs with|none=>rfl|some q=>rw[e]at hh;cases hh
 ·have hh:AB l objs=none:=by
   simp only[FJ,Oy]at h;split at h;·cases h
   ·rw[VY]at h;cases e:AB l objs with|none=>rfl|some q=>rw[e]at h;cases h
  refine YM l λhm=>?_;obtain⟨i,hi⟩:=List.mem_iff_getElem?.1 hm;obtain⟨o,L,k,_⟩:=hlE i l hi;rw[hh]at k;cases k
theorem ZDh{R:Ih}(hl:R.Law){objs:AH}{vs:List V}{ks:List Nat}{a:R.α}{b b':R.β}(hg:R.get vs objs=some (ks,a,b)){l:Nat}{o:Obj}(h:AB l (FJ R ks b' objs)=some o):∃q,AB l objs=some q:=by
 simp only[FJ,Oy]at h;split at h;·rename_i o' hn;obtain⟨i,_,hk,_⟩:=Uy hn;obtain⟨q,hq,_⟩:=(hl.get _ _ _ _ _ hg).2.2.2 i l hk;exact⟨q,hq⟩
 ·rw[VY,ZGo]at h;obtain⟨q,hq,_⟩:=h;exact⟨q,hq⟩
def Obj.hit(M:List Nat):Obj→Bool|.box cs|.vrow _ _ cs _=>LX M cs|.lrec ..=>true|_=>false
def Q0(M:List Nat):AH→List Nat|[]=>[]|(k,o)::r=>match o.hit M with|true=>k::Q0 M r|false=>Q0 M r
theorem ZCw{M:List Nat}{o:Obj}(h:o.hit M=false):o.subst (Gy M)=o:=by cases o with|box cs=>simp only[Obj.hit]at h;simp only[Obj.subst,Mv h]|vrow t xs cs m=>simp only[Obj.hit]at h;simp only[Obj.subst,Mv h]|lrec=>cases h|_=>rfl
theorem Xb{M:List Nat}{l:Nat}:∀{objs:AH},l∉Q0 M objs→AB l (substO (Gy M) objs)=AB l objs
 |[],_=>rfl|(k,o)::r,h=>by
  simp only[Q0]at h;simp only[substO,BA];split at h;·simp only[ZGe,ZGx]at h;rw[ZGA (ZG6 h.1),ZGA (ZG6 h.1),Xb h.2]
  ·rename_i h0;rw[ZCw h0,Xb h]
def Rb(ks:List Nat):List Nat→List Nat|[]=>[]|i::r=>match ks[i]? with|some l=>l::Rb ks r|none=>Rb ks r
def aL(R:Ih)(ks:List Nat)(objs:AH):List Nat:=Rb ks R.ch++match Ff ks R.mv with|[]=>[]|l::r=>Q0 (l::r) objs
theorem oE{ks:List Nat}:∀{ch:List Nat},Rb ks ch=Ff ks ch|[]=>rfl|i::r=>by simp only[Rb,Ff,oE (ch:=r)]
theorem ZDg{R:Ih}{ks:List Nat}{b':R.β}{objs:AH}{l:Nat}(h:l∉aL R ks objs):AB l (FJ R ks b' objs)=AB l objs:=by
 simp only[aL,ZGa,ZGx]at h;obtain⟨h1,h2⟩:=h;rw[oE]at h1;simp only[FJ,Oy];split;·rename_i o hn;obtain⟨i,hi,hk,_⟩:=Uy hn;exact absurd (Ut.2 ⟨i,hi,hk⟩) h1
 ·revert h2;cases Ff ks R.mv with|nil=>exact λ_=>rfl|cons m r=>exact λh2=>Xb h2
theorem eB{s s2 s3:St}(h:LG s s2=some s3):∀l∈s2.mv,l∈s3.mv:=by obtain⟨nt,tmps,objs,nx,df,wr,di,mv⟩:=s;obtain⟨nt2,My,Hz,nx2,df2,wr2,di2,mv2⟩:=s2;unfold LG at h;cases mv2 with|nil=>cases h;exact λl hl=>absurd hl (by simp)|cons l M=>
 simp only at h;split at h;·cases h;exact λk hk=>ZHY _ hk
 ·cases h
end
section
variable {P : Program} {τ : Ap} {κ : A2} {E : AF} {objs : AH}
def Bt(i:Int):List Int:=(Lib.itoa i).map λb=>(b.toNat:Int)
def Px{α:Type}(f:α→α→Int)(l:List α):Prop:=l.Pairwise λa b=>¬f b a<0
inductive Sp where|appInt|sort(T:Ty)(c:Nat)(pre:T.den→T.den→Prop)(f:T.den→T.den→Int)|self(R:Ih)
def Vw(P:Program)(g:FuncId)(T:Ty)(xs:List T.den)(args:List Value)(mv:Bool)(R:List T.den→Prop)(v:Nat→V):Prop:=∀(E:AF)(objs:AH)(l:Nat)(L:Ai),AE P E objs→AB l objs=some (.row T xs)→E.loc l=some L→Calls P g (L.v::args).toArray E.w λe w2=>∃u E' ys,e=.returned u∧E'.w=w2∧R ys∧AE P E' (edit objs (some (l,.row T ys,mv)))∧BL E objs E' (edit objs (some (l,.row T ys,mv))) (moved (some (l,.row T ys,mv)))∧E.w.drawn≤w2.drawn∧AC P E' (v l) u
def OX(i:Int)(bs:List Int):Prop:=AA .i64 i∧bs.length+21≤140737488355328
def bN{α:Type}(pre:α→α→Prop)(xs:List α):Prop:=xs.length<4611686018427387904∧∀a∈xs,∀b∈xs,pre a b
def Sp.Ok(P:Program)(g:FuncId):Sp→Prop|.appInt=>DK P g∧∀(bs:List (Ty.int .u8).den)(i:Int),OX i bs→Vw P g (.int .u8) bs [.int .i64 i,.int .i64 10] true (λys=>ys=bs++Bt i) .osl|.sort T c pre f=>DK P g∧∀xs:List T.den,bN pre xs→Vw P g T xs [.func (.func c) #[] #[]] false (λys=>xs.Perm ys∧Px f ys) λ_=>.tup []|.self R=>R.Law∧DK P g∧∀(E:AF)(objs:AH)(vs:List V)(ks:List Nat)(a:R.α)(b:R.β),AE P E objs→R.get vs objs=some (ks,a,b)→R.pre a b→∀cs:List Value,AZ P E vs cs→Calls P g cs.toArray E.w λe w2=>∃u E' r b',e=.returned u∧E'.w=w2∧R.post a b r b'∧AE P E' (FJ R ks b' objs)∧BL E objs E' (FJ R ks b' objs) (Ff ks R.mv)∧E.w.drawn≤w2.drawn∧AC P E' (AO R.rs r) u
def rQ(R:Ih)(ks:List Nat)(b:R.β)(s:St)(k:St→Prop):Prop:=match LG s ⟨0,[],FJ R ks b s.objs,s.nx,[],[],aL R ks s.objs,Ff ks R.mv⟩with|some s3=>k s3|none=>False
def VR(s:St)(l:Nat)(o:Obj)(mv:Bool)(k:St→Prop):Prop:=match Ly s.nx s.df (some (l,o,mv))with|true=>k (s.edit (some (l,o,mv)))|false=>False
def SN:Sp→List V→St→(V→St→Prop)→Prop
 |.appInt,args,s,k=>match args with
  |[.osl l,.d (.int .i64) i,.d (.int .i64) (.ofNat b)]=>match Nat.beq b 10 with
   |true=>match AB l s.objs with|some (.row (.int .u8) bs)=>OX i bs∧VR s l (.row (.int .u8) (bs++Bt i)) true (k (.osl l))|_=>False
   |false=>False
  |_=>False
 |.sort T c pre f,args,s,k=>match args with
  |[.osl l,.fn (.func g) [] []]=>match Nat.beq g c with
   |true=>match AB l s.objs with|some (.row T' xs)=>if h:T'=T then bN pre (h▸xs)∧∀ys:List T.den,(h▸xs:List T.den).Perm ys∧Px f ys→VR s l (.row T ys) false (k (.tup []))else False|_=>False
   |false=>False
  |_=>False
 |.self R,args,s,k=>match R.get args s.objs with|some (ks,a,b)=>R.pre a b∧∀(r:Bq R.rs)(b':R.β),R.post a b r b'→rQ R ks b' s (k (AO R.rs r))|none=>False
inductive FX where|fi(f:FI)|sp(s:Sp)
def FX.Ok(P:Program)(g:FuncId):FX→Prop|.fi f=>f.Ok P g|.sp s=>s.Ok P g
theorem tA{cx:Cx}{s:St}{a:Act}{T:Ty}{xs:List T.den}{l:Nat}{mv:Bool}{k:V→St→Prop}{vf:Nat→V}{g:FuncId}{args:List Value}{Rr:List T.den→Prop}(hc:Vw P g T xs args mv Rr vf)(ho:AB l s.objs=some (.row T xs))(r:BS P cx s a E)(hk:∀ys,Rr ys→VR s l (.row T ys) mv (k (vf l))){c:Value}(rc:AC P E (.osl l) c):∀R:Ending→World→Prop,(∀u v s3 E',Aa s s3→k v s3→BS P cx s3 a E'→AC P E' v u→(∀l L,l∉s3.mv→E.loc l=some L→E'.loc l=some L)→R (.returned u) E'.w)→CallsIn (fz none) 0 P g (c::args).toArray E.w R:=by intro R hR;cases rc with|osl hL=>
 rename_i L;refine Tc (ZH1 (hc E s.objs l L r.good ho hL) ?_);rintro e w2⟨u,E',ys,rfl,rfl,hy,g',st,hd,hu⟩;have h:=hk ys hy;unfold VR at h;split at h;·rename_i BH;refine hR u (vf l) _ E' (Aa.edit s _) h (BS.edit r BH hd g' st) hu λl' L' hl' hL'=>st.ext.loc l' L' (λhm=>hl' ?_) hL';obtain⟨nt,tmps,objs,nx,df,wr,di,m⟩:=s;cases mv with|false=>simp[moved]at hm|true=>simp only[moved,ZGT]at hm;subst hm;simp[St.edit,St.subst]
 ·exact h.elim
theorem RX{k:IntKind}{n:Int}{c:Value}(r:AC P E (.d (.int k) n) c):c=.int k n:=by cases r with|d h=>exact(ZIk (show[c]=[Value.int k n]from h)).1
theorem ZEN{sp:Sp}{g:FuncId}(hok:sp.Ok P g){args:List V}{s:St}{k:V→St→Prop}(h:SN sp args s k){cx:Cx}{a:Act}(r:BS P cx s a E){cs:List Value}(ra:AZ P E args cs):DK P g∧∀R:Ending→World→Prop,(∀u v s3 E',Aa s s3→k v s3→BS P cx s3 a E'→AC P E' v u→(∀l L,l∉s3.mv→E.loc l=some L→E'.loc l=some L)→R (.returned u) E'.w)→CallsIn (fz none) 0 P g cs.toArray E.w R:=by cases sp with
 |appInt=>
  obtain⟨hc,hok⟩:=hok;refine⟨hc,?_⟩;simp only[SN]at h;split at h
  ·rename_i l i b;split at h
   ·rename_i hb;have hb:=ZGJ hb;subst hb;split at h;·rename_i bs ho;obtain⟨h1,h2⟩:=h;match cs,ra with|[c,d,e],ra=>have r1:=ra.head;have e2:=RX ra.tail.head;have e3:=RX ra.tail.tail.head;subst e2 e3;exact tA (hok bs i h1) ho r (λys hy=>by subst hy;exact h2) r1|[],ra=>exact absurd ra.1 (by simp)|[_],ra=>exact absurd ra.1 (by simp)|[_,_],ra=>exact absurd ra.1 (by simp)|_::_::_::_::_,ra=>exact absurd ra.1 (by simp)
    ·exact h.elim
   ·exact h.elim
  ·exact h.elim|sort T c pre f=>
  obtain⟨hc,hok⟩:=hok;refine⟨hc,?_⟩;simp only[SN]at h;split at h
  ·rename_i l g2;split at h
   ·rename_i hb;have hb:=ZGJ hb;subst hb;split at h
    ·rename_i T' xs ho;split at h;·rename_i hT;subst hT;obtain⟨h1,h2⟩:=h;match cs,ra with
      |[c,d],ra=>
       have r1:=ra.head;have e2:d=.func (.func g2) #[] #[]:=by
        obtain⟨p,q,rfl,k1,k2⟩:=Ow ra.tail.head;have :p=#[]:=by have :=k1.1;simpa using this
        subst this;have :q=#[]:=by have :=k2.1;simpa using this
        subst this;rfl
       subst e2;exact tA (hok xs h1) ho r (λys hy=>h2 ys hy) r1|[],ra=>exact absurd ra.1 (by simp)|[_],ra=>exact absurd ra.1 (by simp)|_::_::_::_,ra=>exact absurd ra.1 (by simp)
     ·exact h.elim
    ·exact h.elim
   ·exact h.elim
  ·exact h.elim|self R=>
  obtain⟨ZBS,hc,hok⟩:=hok;refine⟨hc,?_⟩;simp only[SN]at h;split at h
  ·rename_i ks a' b hg;obtain⟨h1,h2⟩:=h;intro R0 hR;refine Tc (ZH1 (hok E s.objs args ks a' b r.good hg h1 cs ra) ?_);rintro e w2⟨u,E',r',b',rfl,rfl,hp,g',st,hd,hu⟩;have h3:=h2 r' b' hp;unfold rQ at h3;split at h3
   ·rename_i s3 hb;refine hR u _ s3 E' (WH hb ⟨ZGR _,λl hl=>ZDg hl⟩) h3 (WI r hb ⟨g',λl hl=>?_,st,hd⟩) hu λl L hl hL=>st.ext.loc l L (λhm=>hl (eB hb l hm)) hL;have hn:AB l (FJ R ks b' s.objs)=none:=by cases e:AB l (FJ R ks b' s.objs)with|none=>rfl|some o=>obtain⟨q,hq⟩:=ZDh ZBS hg e;obtain⟨L,hL,_⟩:=r.good.at_ l q hq;rw[r.fresh l hl]at hL;cases hL
    rw[st.dom l hn];exact r.fresh l hl
   ·exact h3.elim
  ·exact h.elim
end
section
variable {P : Program} {τ : Ap} {κ : A2} {φ : Nat → Option FX}
inductive Gh where|own(t:Nat)(T:Ty)|ownc(l j:Nat)(T:Ty)|frz(t:Nat)|frzc(l j:Nat)|frzl(l:Nat)|zero(t:Nat)|part(t:Nat)|cases(t j n:Nat)|data(t:Nat)(T:Ty)|opn(l:Nat)|cls(l:Nat)|dne(l:Nat)|ren(n k:Nat)|nxt(n:Nat)
inductive An where|mk(gs:List (Nat×List Gh))(lps:List (Nat×LA))(jns:List (Nat×LA))(un:List (Nat×Nat))(cs:List (Nat×An))
def An.none:An:=.mk [] [] [] [] []
def Jt{α:Type}(n:Nat):List (Nat×α)→Option α|[]=>.none|(m,x)::r=>match Nat.beq m n with|true=>some x|false=>Jt n r
def An.gs:An→Nat→List Gh|.mk g _ _ _ _,n=>match Jt n g with|some l=>l|.none=>[]
def An.lp:An→Nat→Option LA|.mk _ l _ _ _,n=>Jt n l
def An.jn:An→Nat→Option LA|.mk _ _ l _ _,n=>Jt n l
def An.un:An→Nat→Option Nat|.mk _ _ _ l _,n=>Jt n l
def An.call:An→Nat→An|.mk _ _ _ _ l,n=>match Jt n l with|some a=>a|.none=>An.none
def ZCY(l:Nat)(Y:List (Nat×An)):An:=match Jt l Y with|some a=>a|.none=>An.none
abbrev EP:=An→List (Nat×An)→Bool→Code→St→(Exit→St→Prop)→Prop
def Cy(P:Program)(run:EP):Prop:=∀(A:An)(Y:List (Nat×An))(r:Option Nat)(c:Code)(s:St)(k:Exit→St→Prop)(cx:Cx)(R:Ee),run A Y r.isSome c s k→∀a w,BG P cx s a w→(∀e s' a' w',Aa s s'→k e s'→BG P cx s' a' w'→R e a' w')→c.wpIn (fz r) 0 P R a w
def Ku:Exit→Bool|.normal=>true|.ret=>true|_=>false
def S5(τ:Ap)(φ:Nat→Option FX)(run:EP)(A:An)(Y:List (Nat×An))(f:V)(args:List V)(s:St)(k:V→St→Prop):Prop:=match f with
 |.fn (.func g) fst caps=>match φ g with|.none=>False|some (.sp sp)=>SN sp (fst++(args++caps)) s k|some (.fi ⟨nt,res,code⟩)=>match fst++(args++caps)with|vs=>match Nat.ble vs.length nt with|false=>False|true=>match s with|⟨nt0,tmps,objs,nx,df,wr,di,mv⟩=>run A Y false code ⟨nt,JH 0 vs,objs,nx,[],[],[],[]⟩ λe s1=>match Ku e with
  |true=>match LL τ res s1 with|.none=>False|some (v,s2)=>match LG ⟨nt0,tmps,objs,nx,df,wr,di,mv⟩ s2 with|.none=>False|some s3=>k v s3
  |false=>False
 |_=>False
theorem eI(hτ:BQ P τ)(hφ:∀g fi,φ g=some fi→fi.Ok P g){run:EP}(hrun:Cy P run){A:An}{Y:List (Nat×An)}{f:V}{args:List V}{s:St}{k:V→St→Prop}(h:S5 τ φ run A Y f args s k){cx:Cx}{a:Act}{E:AF}(r:BS P cx s a E){c:Value}{cs:List Value}(rf:AC P E f c)(ra:AZ P E args cs):∃g p q,c=.func (.func g) p q∧DK P g∧∀R:Ending→World→Prop,(∀u v s3 E',Aa s s3→k v s3→BS P cx s3 a E'→AC P E' v u→(∀l L,l∉s3.mv→E.loc l=some L→E'.loc l=some L)→R (.returned u) E'.w)→CallsIn (fz none) 0 P g (p++cs.toArray++q) E.w R:=by
 unfold S5 at h;split at h
 ·rename_i g fst caps;split at h;·exact h.elim
  ·rename_i sp hg;obtain⟨p,q,rfl,rp,rq⟩:=Ow rf;have rs:AZ P E (fst++(args++caps)) (p++cs.toArray++q).toList:=by have :=rp.append (ra.append rq);simpa using this
   obtain⟨h1,h2⟩:=ZEN (hφ g _ hg) h r rs;exact⟨g,p,q,rfl,h1,λR hR=>by have :=h2 R hR;rwa[ZKf]at this⟩
  ·rename_i nt res code hg;have hok:FI.Ok P g ⟨nt,res,code⟩:=hφ g _ hg;obtain⟨fn,h1,h2,h3,h4,h5⟩:=id hok;obtain⟨p,q,rfl,rp,rq⟩:=Ow rf;refine⟨g,p,q,rfl,hok.call,λR hR=>?_⟩;simp only at h;split at h;·exact h.elim
   ·rename_i hlen;obtain⟨nt0,tmps,objs,nx,df,wr,di,mv⟩:=s;simp only at h h3 h4;have rs:AZ P E (fst++(args++caps)) (p++cs.toArray++q).toList:=by have :=rp.append (ra.append rq);simpa using this
    have Hw:=QW (nt:=nt) r.good r.fresh rs (ZGk hlen);refine ZIa h1 h2 trivial ?_;rw[h3];refine hrun A Y none code _ _ ⟨E,objs⟩ _ h _ E.w Hw λe s1 a1 w1 hi hk hr1=>?_;have fin:Ku e=true→LeavesInM (fz none) 0 P fn a1.tmps R a1.defers .returning w1:=λhe=>by
     rw[he]at hk;simp only at hk;split at hk;·exact hk.elim
     ·rename_i v s2 hf;split at hk;·exact hk.elim
      ·rename_i s3 hb;refine Rh hτ (fi:=⟨nt,res,code⟩) h4 hf hr1 λu E' haft hu=>?_;exact hR u v s3 E' (WH hb (ZAj (s0:=⟨nt,JH 0 (fst++(args++caps)),objs,nx,[],[],[],[]⟩) hf hi)) hk (WI r hb haft) hu λl L hl hL=>haft.step.ext.loc l L (λhm=>hl (eB hb l hm)) hL
    cases e with|normal=>exact fin rfl|ret=>exact fin rfl|_=>exact hk.elim
 ·exact h.elim
def Se(nt:Nat):List Nat→List V→Option (List (Nat×V))
 |[],vs=>match vs with|[]=>some []|_=>.none
 |p::ps,vs=>match vs with
  |v::r=>match Nat.blt p nt with
   |true=>match Se nt ps r with|some l=>some (l++[(p,v)])|.none=>.none
   |false=>.none
  |[]=>.none
def rX:Exit→Option RJ|.normal=>some .no|.ret=>some .ret|.exit i=>some (.exit i)|_=>.none
def RJ.isNo:RJ→Bool|.no=>true|_=>false
def RJ.st:RJ→LoopState|.no=>.ready|_=>.done
def aN(l:Nat)(di1 di3:List Nat)(j:RJ)(nt:Nat)(tmps:List (Nat×V))(ps:List Nat)(a b:Code)(nt4:Nat)(Jg:List (Nat×V))(ps4:List Nat)(a4 b4:Code):Obj×List Nat:=match B7 l di1 with|true=>(.lrec nt4 Jg ps4 a4 b4 j.st j,l::(di3++di1))|false=>match B7 l di3 with|true=>(.lrec nt4 Jg ps4 a4 b4 j.st j,l::(di3++di1))|false=>match j with|.no=>(.lrec nt tmps ps a b .ready .no,di3++di1)|j=>(.lrec nt4 Jg ps4 a4 b4 j.st j,l::(di3++di1))
def cM(run:EP)(Y:List (Nat×An))(l:Nat)(args:List V)(s:St)(k:V→St→Prop):Prop:=match s with|⟨nt0,cB,objs,nx,df,wr,di,mv⟩=>match AB l objs with
 |some (.lrec nt tmps ps assign body .ready .no)=>match Se nt ps args with|.none=>False|some pa=>match ZCY l Y with|A=>run A Y true assign ⟨nt,pa++tmps,objs,nx,[],[],[],[]⟩ λe s1=>match e with
  |.normal=>match s1 with|⟨nt1,Vf,U1,nx1,df1,wr1,di1,mv1⟩=>match B7 l mv1 with|true=>False|false=>match AB l U1 with
   |some (.lrec nt2 My ps2 a2 b2 .ready j2)=>run A Y true body ⟨nt1,Vf,(l,.lrec nt2 My ps2 a2 b2 .busy j2)::U1,nx1,df1,[],[],mv1⟩ λe s2=>match rX e with|.none=>False|some j=>match s2 with|⟨_,_,Rn,nx3,_,_,di3,mv3⟩=>match B7 l mv3 with|true=>False|false=>match AB l Rn with
    |some (.lrec nt4 Jg ps4 a4 b4 _ _)=>match aN l di1 di3 j nt tmps ps assign body nt4 Jg ps4 a4 b4 with|(o4,di4)=>match LG ⟨nt0,cB,objs,nx,df,wr,di,mv⟩ ⟨0,[],(l,o4)::Rn,nx3,[],[],di4,mv3⟩with|.none=>False|some s3=>k (.d .bool j.isNo) s3
    |_=>False
   |_=>False
  |_=>False
 |_=>False
theorem AE.lrec{E:AF}{objs:AH}(g:AE P E objs){l:Nat}{L:Ai}{nt:Nat}{tmps:List (Nat×V)}{ps:List Nat}{a b:Code}{st st':LoopState}{j j':RJ}(ho:AB l objs=some (.lrec nt tmps ps a b st j))(hL:E.loc l=some L):∃r:Loop,E.w.heap[L.b]?=some (.loop r)∧r.tmps.size=nt∧(∀t,AC P E (Ag t tmps) (r.tmps.getD t undef))∧r.params.toList=ps∧r.assign=a∧r.body=b∧r.state=st∧r.pending=j.code∧∃E',E'.w=E.w.putObj L.b (.loop {r with state:=st',pending:=j'.code})∧E'.S=E.S∧E'.loc=E.loc∧AE P E' ((l,.lrec nt tmps ps a b st' j')::objs)∧BL E objs E' ((l,.lrec nt tmps ps a b st' j')::objs) []:=by
 obtain⟨K,hK,hat⟩:=g.at_ l _ ho;rw[hL]at hK;cases hK;obtain⟨r,h1,h2,h3,h4,h5,h6,h7,h8⟩:=hat;refine⟨r,h1,h2,h3,h4,h5,h6,h7,h8,?_⟩;have Ab:L.b<E.w.heap.size:=(Array.getElem?_eq_some_iff.1 h1).1;have hgr:E.w.grownBy (E.w.putObj L.b (.loop {r with state:=st',pending:=j'.code})) (some L.b):=ZKR _ _ _;have e:E.setL (E.w.putObj L.b (.loop {r with state:=st',pending:=j'.code})) l L=⟨E.w.putObj L.b (.loop {r with state:=st',pending:=j'.code}),E.S,E.loc⟩:=by
  simp only[AF.setL];congr 1;funext j;split;·rename_i e;subst e;exact hL.symm
  ·rfl
 have hx:CK E (E.setL (E.w.putObj L.b (.loop {r with state:=st',pending:=j'.code})) l L) []:=OC g ho hL hgr (λb e=>by cases e;exact⟨trivial,rfl⟩) λ_=>rfl;have hp:=AE.put g (mv:=false) (o':=.lrec nt tmps ps a b st' j') (L':=L) ho hL hgr (λb e=>by cases e;exact⟨trivial,rfl⟩) (λ_=>rfl) ⟨{r with state:=st',pending:=j'.code},World.putObj_heap_same Ab,h2,λt=>(h3 t).mono hx,h4,h5,h6,rfl,rfl⟩ λ_=>.inl ⟨trivial,rfl⟩;rw[e]at hp;exact⟨⟨E.w.putObj L.b (.loop {r with state:=st',pending:=j'.code}),E.S,E.loc⟩,rfl,rfl,rfl,hp.1,by simpa[moved,edit]using hp.2⟩
theorem vA{nt:Nat}{E:AF}{tmps:List (Nat×V)}:∀{ps:List Nat}{vs:List V}{pa:List (Nat×V)}{cs:List Value}{ta:Array Value},Se nt ps vs=some pa→AZ P E vs cs→ta.size=nt→(∀t,AC P E (Ag t tmps) (ta.getD t undef))→ps.length=cs.length∧((ps.zip cs).foldl (λt(p,v)=>t.setIfInBounds p v) ta).size=nt∧∀t,AC P E (Ag t (pa++tmps)) (((ps.zip cs).foldl (λt(p,v)=>t.setIfInBounds p v) ta).getD t undef)
 |[],vs,pa,cs,ta,h,r,hs,ht=>by
  simp only[Se]at h;split at h;·cases h;have :cs=[]:=ZGY (by simpa using r.1);subst this;exact⟨rfl,hs,ht⟩
  ·cases h|p::ps,vs,pa,cs,ta,h,r,hs,ht=>by
  simp only[Se]at h;split at h
  ·rename_i v rest;split at h
   ·rename_i hp;split at h;·rename_i l hl;cases h;have hp:p<nt:=ZGk hp;match cs,r with
     |[],r=>exact absurd r.1 (by simp)|c::cs,r=>
      have ih:=vA (tmps:=(p,v)::tmps) (ta:=ta.setIfInBounds p c) hl r.tail (by simpa using hs) λt=>by
       rw[DG];simp only[ZGV,ZJq];split;·rename_i e;subst e;simp[show p<ta.size from by omega];exact r.head
       ·have :=ht t;rwa[ZGV]at this
      refine⟨by simp[ih.1],ih.2.1,λt=>?_⟩;have :=ih.2.2 t;simpa using this
    ·cases h
   ·cases h
  ·cases h
theorem ZDv{j:RJ}:j.code.isNone=j.isNo:=by cases j<;>rfl
theorem ZFH{run:EP}(hrun:Cy P run){Y:List (Nat×An)}{l:Nat}{args:List V}{s:St}{k:V→St→Prop}(h:cM run Y l args s k){cx:Cx}{a:Act}{E:AF}(r:BS P cx s a E){c:Value}{cs:Array Value}(rl:AC P E (.yl l) c)(ra:AZ P E args cs.toList)(ro:Option Nat):∃(b fn:Nat)(tmps:Array Value)(assign body:Code),c=.func (.yield b) #[] #[]∧(Instr.yield b cs).run P E.w=.ok (.round b fn tmps assign body) E.w∧∀R:Ending→World→Prop,(∀u v s3 E',Aa s s3→k v s3→BS P cx s3 a E'→AC P E' v u→R (.returned u) E'.w)→RoundIn (fz ro) 0 P b fn tmps assign body E.w R:=by
 obtain⟨nt0,cB,objs,nx,df,wr,di,mv⟩:=s;unfold cM at h;simp only at h;split at h
 ·rename_i nt tmps ps assign body ho;split at h;·exact h.elim
  ·rename_i pa hpa;cases rl with|yl hL=>
   rename_i L;obtain⟨K,hK,hat⟩:=r.good.at_ l _ ho;rw[hL]at hK;cases hK;obtain⟨rc,h1,h2,h3,h4,h5,h6,h7,h8⟩:=hat;obtain⟨z1,z2,z3⟩:=vA hpa ra h2 h3;have Am:cs.size=rc.params.size:=by
    have :rc.params.toList.length=cs.toList.length:=by rw[h4];exact z1
    simpa using this.symm
   refine⟨L.b,rc.fn,_,rc.assign,rc.body,rfl,run_yield h1 Am,λR hR=>?_⟩;refine roundIn_of_wpIn trivial ?_;rw[h5];have Y2:BG P ⟨E,objs⟩ ⟨nt,pa++tmps,objs,nx,[],[],[],[]⟩ {tmps:=(rc.params.zip cs).foldl (λtmps(t,a)=>tmps.setIfInBounds t a) rc.tmps,defers:=[]} E.w:=by
    have e:(rc.params.zip cs).foldl (λ(tmps:Array Value)(x:Nat×Value)=>tmps.setIfInBounds x.1 x.2) rc.tmps=(ps.zip cs.toList).foldl (λ(t:Array Value)(x:Nat×Value)=>t.setIfInBounds x.1 x.2) rc.tmps:=by rw[←ZKw,Array.toList_zip,h4]
    refine⟨E,rfl,r.good,r.fresh,.refl _ _ _,ZGR _,?_,rfl,λt=>?_⟩;·show((rc.params.zip cs).foldl (λ(tmps:Array Value)(x:Nat×Value)=>tmps.setIfInBounds x.1 x.2) rc.tmps).size=nt;rw[e];exact z2
    ·show AC P E (Ag t (pa++tmps)) (((rc.params.zip cs).foldl (λ(tmps:Array Value)(x:Nat×Value)=>tmps.setIfInBounds x.1 x.2) rc.tmps).getD t undef);rw[e];exact z3 t
   refine hrun _ Y (some L.b) assign _ _ ⟨E,objs⟩ _ h _ E.w Y2 λe s1 a1 w1 hi1 hk1 hr1=>?_;cases e<;>try(exact hk1.elim)
   obtain⟨nt1,Vf,U1,nx1,df1,wr1,di1,mv1⟩:=s1;simp only at hk1;split at hk1;·exact hk1.elim
   ·rename_i EV;split at hk1
    ·rename_i nt2 My ps2 a2 b2 j2 ho1;obtain⟨E1,rfl,r1⟩:=hr1;have nm:∀{M:List Nat},B7 l M=false→l∉M:=λh hm=>by rw[F3.2 hm]at h;cases h
     have Xn:E1.loc l=some L:=r1.step.ext.loc l L (nm EV) hL;obtain⟨q,q1,q2,q3,q4,q5,q6,q7,q8,E2,e1,e2,e3,g2,s2⟩:=AE.lrec (st':=.busy) (j':=j2) r1.good ho1 Xn;have IS:E1.w.putObj L.b (.loop {q with state:=.busy})=E2.w:=by rw[e1];congr 2;rw[←q8]
     refine⟨E2.w,by rw[←IS];exact run_beginRound q1 q7,?_⟩;rw[h6];have ZBZ:BG P ⟨E,objs⟩ ⟨nt1,Vf,(l,.lrec nt2 My ps2 a2 b2 .busy j2)::U1,nx1,df1,[],[],mv1⟩ a1 E2.w:=⟨E2,rfl,g2,λj hj=>by rw[e3];exact r1.fresh j hj,r1.step.trans s2,by rw[e1];exact r1.drawn,r1.size,r1.df.ext s2.ext,λt=>(r1.rep t).mono s2.ext⟩;refine hrun _ Y (some L.b) body _ _ ⟨E,objs⟩ _ hk1 _ _ ZBZ λe s4 a3 w3 hi2 hk2 RK=>?_;obtain⟨ntz,ZF8,Rn,nx3,dfz,wrz,di3,mv3⟩:=s4;have fin:∀j:RJ,rX e=some j→∃v w',(Instr.endRound L.b j.code).run P w3=.ok v w'∧R (.returned v) w':=by
      intro j hj;rw[hj]at hk2;simp only at hk2;split at hk2;·exact hk2.elim
      ·rename_i UB;split at hk2
       ·rename_i nt4 Jg ps4 a4 b4 _ _ mE;generalize KC:aN l di1 di3 j nt tmps ps assign body nt4 Jg ps4 a4 b4=od at hk2;obtain⟨o4,di4⟩:=od;simp only at hk2;split at hk2;·exact hk2.elim
        ·rename_i s3 hb;obtain⟨E3,rfl,r3⟩:=RK;have hL3:E3.loc l=some L:=r3.step.ext.loc l L (nm UB) hL;obtain⟨p,p1,p2,p3,p4,p5,p6,p7,p8,E4,f1,f2,f3,g4,st4⟩:=AE.lrec (st':=j.st) (j':=j) r3.good mE hL3;have hw4:E3.w.putObj L.b (.loop {p with state:=if j.code.isNone then .ready else .done,pending:=j.code})=E4.w:=by rw[f1];congr 2;cases j<;>rfl
         refine⟨.bool j.isNo,E4.w,by rw[←hw4,←ZDv];exact run_endRound j.code p1,?_⟩;have B2:nx≤nx3:=by have h1:nx≤nx1:=hi1.nx;have h2:nx1≤nx3:=hi2.nx;exact ZGd h1 h2
         have UG:∀l',l'≠l→l'∉di3→l'∉di1→AB l' Rn=AB l' objs:=λl' hne h3 h1=>by have k1:=hi2.obj l' h3;have k2:=hi1.obj l' h1;simp only at k1 k2;rw[k1,BA,ZGA (ZG6 hne),k2]
         have hcase:o4=.lrec nt4 Jg ps4 a4 b4 j.st j∧l∈di4∧(∀l',l'∉di4→l'≠l∧l'∉di3∧l'∉di1)∨o4=.lrec nt4 Jg ps4 a4 b4 j.st j∧o4=.lrec nt tmps ps assign body .ready .no∧∀l',l'∉di4→l'∉di3∧l'∉di1:=by
          have hd1:o4=.lrec nt4 Jg ps4 a4 b4 j.st j→di4=l::(di3++di1)→o4=.lrec nt4 Jg ps4 a4 b4 j.st j∧l∈di4∧∀l',l'∉di4→l'≠l∧l'∉di3∧l'∉di1:=λe1 e2=>by subst e2;refine⟨e1,by simp,λl' hl'=>?_⟩;simp only[ZGe,ZGa,ZGx]at hl';exact hl'
          unfold aN at KC;split at KC;·cases KC;exact .inl (hd1 rfl rfl)
          ·rename_i hn1;split at KC;·cases KC;exact .inl (hd1 rfl rfl)
           ·rename_i hn3;split at KC;·cases KC;have k1:=hi2.obj l (nm hn3);have k2:=hi1.obj l (nm hn1);simp only at k1 k2;rw[BA,ZGE rfl,mE]at k1;rw[ho,ho1]at k2;cases k1;cases k2;exact .inr ⟨rfl,rfl,λl' hl'=>by simp only[ZGa,ZGx]at hl';exact hl'⟩
            ·cases KC;exact .inl (hd1 rfl rfl)
         have mF:o4=.lrec nt4 Jg ps4 a4 b4 j.st j:=hcase.elim (λh=>h.1) λh=>h.1;refine hR _ _ s3 E4 (WH hb ⟨B2,λl' hl'=>?_⟩) hk2 (WI r hb ⟨by rw[mF];exact g4,λj hj=>by rw[f3];exact r3.fresh j hj,by rw[mF];exact r3.step.trans st4,by rw[f1];exact r3.drawn⟩) (.mk_bool _);show AB l' ((l,o4)::Rn)=AB l' objs;rw[BA];rcases hcase with⟨_,_,h⟩|⟨_,h1,h⟩;·have :=h l' hl';rw[ZGA (ZG6 this.1)];exact UG l' this.1 this.2.1 this.2.2
         ·have :=h l' hl';by_cases e:l=l';·subst e;rw[ZGE rfl,h1,ho]
          ·rw[ZGA e];exact UG l' (ZG6 e) this.1 this.2
       ·exact hk2.elim
     cases e with|normal=>exact fin .no rfl|ret=>exact fin .ret rfl|exit i=>exact fin (.exit i) rfl|_=>exact hk2.elim
    ·exact hk1.elim
 ·exact h.elim
end
section
variable {P : Program} {τ : Ap} {κ : A2} {φ : Nat → Option FX}
theorem BL.swap{E0 E:AF}{imp objs DQ:AH}{M:List Nat}(h:BL E0 imp E objs M)(tr:∀l o,AB l DQ=some o→∃o1 L,AB l objs=some o1∧E.loc l=some L∧E.loc l=some L∧(∀L,o.has L→o1.has L)∧(Ay P E L o1→Ay P E L o))(hn:∀l,AB l DQ=none→AB l objs=none):BL E0 imp E DQ M:=⟨h.ext,h.os,h.tape,h.output,h.size,h.frame,λb hb=>h.own b (Zu (P:=P) tr hb),h.st,λl hl=>h.keys l (hn l hl),λl hl=>h.dom l (hn l hl)⟩
def Ie(v:V):Nat→List V→List V|_,[]=>[]|0,_::r=>v::r|n+1,u::r=>u::Ie v n r
theorem bE{v:V}:∀{n:Nat}{l:List V},(Ie v n l).length=l.length|_,[]=>by cases‹Nat›<;>rfl|0,_::_=>rfl|n+1,_::r=>by simp only[Ie,ZGL,bE]
theorem sG{v:V}:∀{n:Nat}{l:List V}(j:Nat),j<l.length→(Ie v n l).getD j .any=if j=n then v else l.getD j .any
 |n,[],j,h=>by simp at h|0,u::r,0,_=>by simp[Ie]|0,u::r,j+1,_=>by simp[Ie]|n+1,u::r,0,_=>by simp[Ie]|n+1,u::r,j+1,h=>by
  simp only[Ie,ZIu];rw[sG j (by simpa using h)];by_cases e:j=n;·simp[e]
  ·rw[ZGA e,ZGA (by omega)]
def OE(n k:Nat)(v:V):V:=match v with
 |.osl j=>match Nat.beq j n with|true=>.osl k|false=>v
 |v=>Di n v
def redo(l:Nat)(o:Obj)(s:St):St:=match s with|⟨nt,tmps,objs,nx,df,wr,di,mv⟩=>⟨nt,tmps,(l,o)::objs,nx,df,wr,l::di,mv⟩
def ghost1:Gh→St→Option St
 |.opn _,_=>none|.nxt n,s=>match s with|⟨nt,tmps,objs,nx,df,wr,di,mv⟩=>match Nat.ble nx n with|true=>some ⟨nt,tmps,objs,n,df,wr,di,mv⟩|false=>none
 |.cls l,s=>match AB l s.objs with
  |some (.vrow T xs [v] m)=>match GU (.sl T) [v]with|some y=>some (redo l (.vrow T (xs++[y]) [] m) s)|none=>none
  |_=>none
 |.dne l,s=>match AB l s.objs with|some (.vrow T xs [] m)=>some (redo l (.row (.sl T) (xs++List.replicate m [])) s)|_=>none
 |.ren n k,s=>match AB n s.objs with
  |some (.row T ys)=>match AB k s.objs with
   |some .dead=>match Nat.beq n k with|true=>none|false=>match Ly s.nx s.df (some (k,.row T ys,true))with|true=>some ((redo n .dead (s.edit (some (k,.row T ys,true)))).subst n (OE n k))|false=>none
   |_=>none
  |_=>none
 |.own t T,s=>match s with|⟨nt,tmps,objs,nx,df,wr,di,mv⟩=>match Ag t tmps with
  |.nils=>match Nat.blt 0 T.size with|true=>some ⟨nt,(t,.osl nx)::tmps,(nx,.row T [])::objs,nx+1,df,t::wr,nx::di,mv⟩|false=>none
  |.osl _=>some ⟨nt,tmps,objs,nx,df,wr,di,mv⟩|.osp ..=>some ⟨nt,tmps,objs,nx,df,wr,di,mv⟩|_=>none
 |.ownc l j T,s=>match s with|⟨nt,tmps,objs,nx,df,wr,di,mv⟩=>match AB l objs with
  |some (.box cs)=>match cs.getD j .any with
   |.nils=>match Nat.blt 0 T.size with|true=>some ⟨nt,tmps,(l,.box (Ie (.osl nx) j cs))::(nx,.row T [])::objs,nx+1,df,wr,l::nx::di,mv⟩|false=>none
   |.osl _=>some ⟨nt,tmps,objs,nx,df,wr,di,mv⟩|_=>none
  |_=>none
 |.frz t,s=>some (frzT t 5 s)|.frzl l,s=>some (s.freeze l)|.zero t,s=>match Ag t s.tmps with
  |.osp l lo n=>match Nat.beq lo 0&&Nat.beq n 0 with
   |true=>match AB l s.objs with
    |some (.row T xs)=>match Ly s.nx s.df (some (l,.row T [],true))with
     |true=>match s.edit (some (l,.row T [],true))with|⟨nt,tmps,objs,nx,df,wr,di,mv⟩=>some ⟨nt,(t,.osl l)::tmps,objs,nx,df,t::wr,di,mv⟩
     |false=>none
    |_=>none
   |false=>none
  |.osl _=>some s|.nils=>some s|_=>none
 |.part _,_=>none|.cases ..,_=>none|.frzc l j,s=>match AB l s.objs with
  |some (.box cs)=>match(cs.getD j .any).fk with|some k=>some (s.freeze k)|none=>some s
  |_=>none
 |.data t T,s=>match s with|⟨nt,tmps,objs,nx,df,wr,di,mv⟩=>match getD T (Ag t tmps)with|some x=>some ⟨nt,(t,Ij T x)::tmps,objs,nx,df,t::wr,di,mv⟩|none=>none
theorem Zn{E:AF}{objs:AH}(g:AE P E objs){nx:Nat}(hf:E.loc nx=none){T:Ty}(hT:0<T.size){c:Value}(r:AC P E .nils c):∃E',E'.w=E.w∧(∀l,l≠nx→E'.loc l=E.loc l)∧AE P E' ((nx,.row T [])::objs)∧BL E objs E' ((nx,.row T [])::objs) []∧AC P E' (.osl nx) c:=by cases r with|nils a=>refine⟨E.setL E.w nx ⟨0,a,0,0,T.size⟩,rfl,λl h=>B4 _ _ _ h,?_⟩;have hp:=g.push (w:=E.w) (l:=nx) (L:=⟨0,a,0,0,T.size⟩) (o:=.row T []) hf ⟨rfl,rfl,rfl,ZGR _,λ_ _ _=>rfl⟩ ⟨rfl,hT,rfl,(0:Nat),[],rfl,.inl ⟨rfl,rfl⟩⟩ λh=>absurd rfl h;exact⟨hp.1,hp.2,.osl (CJ _ _ _ _)⟩
theorem Un{E:AF}{tmps:List (Nat×V)}{a:Act}{t0:Nat}{v:V}(h:∀t,AC P E (Ag t tmps) (a.tmps.getD t undef))(hv:AC P E v (a.tmps.getD t0 undef))(t:Nat):AC P E (Ag t ((t0,v)::tmps)) (a.tmps.getD t undef):=by
 rw[DG];split;·rename_i e;subst e;exact hv
 ·exact h t
theorem ZFI{E:AF}{objs:AH}(g:AE P E objs){l:Nat}{T:Ty}{xs:List T.den}(ho:AB l objs=some (.row T xs)){c:Value}(r:AC P E (.osp l 0 0) c):∃E',E'.w=E.w∧AE P E' (edit objs (some (l,.row T [],true)))∧BL E objs E' (edit objs (some (l,.row T [],true))) [l]∧AC P E' (.osl l) c:=by
 obtain⟨L,hL,a,rfl,ha⟩:=KJ r;obtain⟨K,hK,hat⟩:=g.at_ l _ ho;rw[hL]at hK;cases hK;have hp:=AE.put g (mv:=true) (o':=.row T []) (L':=⟨L.b,a,0,L.cap,L.esz⟩) (w:=E.w) (row:=none) ho hL ⟨rfl,rfl,rfl,ZGR _,λ_ _ _=>rfl⟩ (λb hb=>by cases hb) (λh=>by cases h) (by
  obtain⟨h1,h2,h3,e,cs,h4,h5⟩:=hat;refine⟨h1,h2,rfl,e,[],rfl,?_⟩;rcases h5 with⟨h6,h7⟩|⟨cur,h6,h7,h8,h9,Bx,FC,C1⟩;·exact .inl ⟨h6,rfl⟩
  ·refine .inr ⟨cur,?_,h7,ZHu _,h9,Bx,FC,by simp⟩;have :=ha (by omega);simp only[this,h6,ZJR];rfl) λhh=>.inl ⟨hh,rfl⟩;refine⟨E.setL E.w l ⟨L.b,a,0,L.cap,L.esz⟩,rfl,hp.1,hp.2,?_⟩;have :Value.slice a 0 (L.cap-0)=(⟨L.b,a,0,L.cap,L.esz⟩:Ai).v:=rfl;rw[this];exact .osl (CJ _ _ _ _)
theorem aO{cx:Cx}{s:St}{a:Act}{E:AF}{l:Nat}{o o':Obj}(ho:AB l s.objs=some o)(hh:∀L,o'.has L→o.has L)(ha:∀L,Ay P E L o→Ay P E L o')(r:BS P cx s a E):BS P cx (redo l o' s) a E:=by
 obtain⟨nt,tmps,objs,nx,df,wr,di,mv⟩:=s;have ho:AB l objs=some o:=ho;have tr:∀l' o1,AB l' ((l,o')::objs)=some o1→∃o2 L,AB l' objs=some o2∧E.loc l'=some L∧E.loc l'=some L∧(∀L,o1.has L→o2.has L)∧(Ay P E L o2→Ay P E L o1):=λl' o1 h1=>by
  rw[BA]at h1;split at h1;·rename_i e;subst e;cases h1;obtain⟨L,hL,_⟩:=r.good.at_ l o ho;exact⟨o,L,ho,hL,hL,hh,ha L⟩
  ·obtain⟨L,hL,_⟩:=r.good.at_ l' o1 h1;exact⟨o1,L,h1,hL,hL,λ_ h=>h,λh=>h⟩
 exact⟨r.good.sub rfl rfl tr,r.fresh,r.step.swap tr λl' hl'=>(Is hl').2,r.drawn,r.size,r.df,r.rep⟩
theorem Aa.redo{l:Nat}{o:Obj}{s:St}:Aa s (redo l o s):=by obtain⟨nt,tmps,objs,nx,df,wr,di,mv⟩:=s;exact⟨rfl,ZGR _,λ_ h=>h,λ_ h=>ZGK _ h,λ_ h=>h,λ_ _=>rfl,λk hk=>by have hk:k∉l::di:=hk;simp only[ZGe,ZGx]at hk;show AB k ((l,o)::objs)=_;rw[BA,ZGA (ZG6 hk.1)],λ_=>rfl⟩
theorem yF{E:AF}{L:Ai}{T:Ty}{xs:List (List T.den)}{v:V}{m:Nat}{y:List T.den}(hy:GU (.sl T) [v]=some y)(h:Ay P E L (.vrow T xs [v] m)):Ay P E L (.vrow T (xs++[y]) [] m):=by
 obtain⟨h1,h2,h3,e,cs,h4,h5⟩:=h;have hlen:L.len=(xs++[y]).length+([]:List V).length+m:=by simp only[ZGI,ZGL,ZGS]at h3⊢;omega
 rcases h5 with h5|⟨cur,h5,h6,h7,h8,h9,Bx,FC,C1,G8⟩;·have :=h5.2;simp at h3;omega
 ·have Ab:xs.length<cur.size:=by simp at h3;omega
  have hc:BZ E.w E.S (.sl T) y [cur[xs.length]]:=IW hy ⟨rfl,λj hj=>by
   obtain rfl:j=0:=by simp at hj;exact hj
   have :=C1 0 (by simp);rw[ZGV,ZHw,ZHF Ab]at this;exact this⟩;refine⟨h1,ZHu _,hlen,e,cs++[cur[xs.length]],h4.append ⟨[cur[xs.length]],[],rfl,hc,rfl⟩,.inr ⟨cur,h5,h6,h7,h8,h9,Bx,?_,λj hj=>by simp at hj,λi hi=>G8 i (by simpa using hi)⟩⟩;rw[←FC,ZGI,ZGL,ZGS,ZGu,ZI7,ZHG,ZHF Ab];rfl
theorem qK{w:World}{S:Nat→Prop}{T:Ty}:∀m:Nat,A8 w S (.sl T) (List.replicate m []) (List.replicate m (.slice none 0 0))|0=>rfl|m+1=>⟨[.slice none 0 0],List.replicate m (.slice none 0 0),by rw[ZIv];rfl,⟨none,0,rfl,⟨ZGR _,ZHu _⟩,λh=>absurd rfl h⟩,qK m⟩
theorem zM{E:AF}{L:Ai}{T:Ty}{xs:List (List T.den)}{m:Nat}(h:Ay P E L (.vrow T xs [] m)):Ay P E L (.row (.sl T) (xs++List.replicate m [])):=by
 obtain⟨h1,h2,h3,e,cs,h4,h5⟩:=h;have hlen:L.len=(xs++List.replicate m ([]:List T.den)).length:=by simp only[ZGI,ZGj,ZGS]at h3⊢;omega
 refine⟨h1,Nat.zero_lt_one,hlen,e,_,h4.append (qK m),?_⟩;rcases h5 with⟨h5,h6⟩|⟨cur,h5,h6,h7,h8,h9,Bx,FC,C1,G8⟩;·exact .inl ⟨h5,ZGY (by rw[←hlen];exact h6)⟩
 ·refine .inr ⟨cur,h5,h6,by rw[←hlen];exact h7,h8,h9,by rw[Bx];exact(ZIM _).symm,?_⟩;rw[←hlen,show(Ty.sl T).size=1 from rfl,ZIM,←FC];have h3:L.len=xs.length+m:=by simpa using h3
  have hcl:(cur.toList.take xs.length).length=xs.length:=by simp only[ZGP,ZGn];omega
  apply ZHX;intro j;rw[ZGg];split
  ·rename_i hj;rcases ZHj j xs.length with h|h;·rw[ZHK (by omega),ZGg,ZGE h]
   ·rw[ZG5 (by omega),hcl,ZKL,ZGE (by omega),ZHG];exact G8 j (by simpa using h) hj
  ·rw[ZHL];rw[ZGI,hcl,ZGj];omega
theorem ZDs{cx:Cx}{s:St}{a:Act}{E:AF}{n k:Nat}{T:Ty}{ys:List T.den}(hn:AB n s.objs=some (.row T ys))(hk:AB k s.objs=some .dead)(hne:n≠k)(BH:Ly s.nx s.df (some (k,.row T ys,true))=true)(r:BS P cx s a E):∃E',E'.w=E.w∧BS P cx ((redo n .dead (s.edit (some (k,.row T ys,true)))).subst n (OE n k)) a E':=by
 obtain⟨nt,tmps,objs,nx,df,wr,di,mv⟩:=s;have hn:AB n objs=some (.row T ys):=hn;have hk:AB k objs=some .dead:=hk;obtain⟨L,hL,hat⟩:=r.good.at_ n _ hn;obtain⟨K,hK,_⟩:=r.good.at_ k _ hk;have Qn:(E.setL E.w k L).loc n=some L:=by rw[B4 _ _ _ hne];exact hL
 have hx:CK E (E.setL E.w k L) [k]:=⟨λb hb=>⟨hb,rfl⟩,λj M hj hM=>by rw[B4 _ _ _ (by simpa using hj)];exact hM⟩;have BR:∀l o,AB l ((n,.dead)::(k,.row T ys)::substO (Di k) objs)=some o→l=n∧o=.dead∨l=k∧o=.row T ys∨l≠n∧l≠k∧∃q,AB l objs=some q∧o=q.subst (Di k):=λl o h=>by
  rw[BA]at h;split at h;·rename_i e;cases h;exact .inl ⟨e.symm,rfl⟩
  ·rename_i e1;rw[BA]at h;split at h;·rename_i e;cases h;exact .inr (.inl ⟨e.symm,rfl⟩)
   ·rename_i e2;rw[JN,ZGo]at h;obtain⟨q,hq,rfl⟩:=h;exact .inr (.inr ⟨ZG6 e1,ZG6 e2,q,hq,rfl⟩)
 have old:∀l o M,AB l ((n,.dead)::(k,.row T ys)::substO (Di k) objs)=some o→(E.setL E.w k L).loc l=some M→o.has M→l≠n∧∃l' o',AB l' objs=some o'∧E.loc l'=some M∧o'.has M∧l'=if l=k then n else l:=λl o M h1 h2 h3=>by
  rcases BR l o h1 with⟨rfl,rfl⟩|⟨rfl,rfl⟩|⟨e1,e2,q,hq,rfl⟩;·exact h3.elim
  ·rw[CJ]at h2;cases h2;exact⟨ZG6 hne,n,_,hn,hL,h3,(ZGE rfl).symm⟩
  ·rw[B4 _ _ _ e2]at h2;exact⟨e1,l,q,hq,h2,Obj.has_subst.1 h3,(ZGA e2).symm⟩
 have ownb:∀b,Bp (E.setL E.w k L) ((n,.dead)::(k,.row T ys)::substO (Di k) objs) b→Bp E objs b:=λb⟨l,o,M,h1,h2,h3,h4⟩=>by obtain⟨_,l',o',k1,k2,k3,_⟩:=old l o M h1 h2 h3;exact⟨l',o',M,k1,k2,k3,h4⟩
 have none2:∀l,AB l ((n,.dead)::(k,.row T ys)::substO (Di k) objs)=none→l≠k∧AB l objs=none:=λl h=>by obtain⟨_,h⟩:=Is h;obtain⟨h1,h⟩:=Is h;rw[JN]at h;exact⟨h1,by simpa using h⟩
 have g1:AE P (E.setL E.w k L) ((n,.dead)::(k,.row T ys)::substO (Di k) objs):=by
  refine⟨λl o h=>?_,λb h=>r.good.ns b (ownb b h),r.good.sl,r.good.tab,λi j p q M M' h1 h2 h3 h4 h5 h6 h7=>?_⟩
  ·rcases BR l o h with⟨rfl,rfl⟩|⟨rfl,rfl⟩|⟨e1,e2,q,hq,rfl⟩;·exact⟨L,Qn,trivial⟩
   ·exact⟨L,CJ _ _ _ _,hat⟩
   ·obtain⟨M,hM,ha⟩:=r.good.at_ l q hq;exact⟨M,by rw[B4 _ _ _ e2];exact hM,ha.keepS (λv c h=>RY hx h) (λb hb=>⟨hb,rfl⟩) λ_=>rfl⟩
  ·obtain⟨n1,i',p',k1,k2,k3,k4⟩:=old i p M h1 h3 h5;obtain⟨n2,j',q',m1,m2,m3,m4⟩:=old j q M' h2 h4 h6;have :=r.good.inj i' j' p' q' M M' k1 m1 k2 m2 k3 m3 h7;rw[k4,m4]at this;by_cases e1:i=k
   ·by_cases e2:j=k;·rw[e1,e2]
    ·rw[ZGE e1,ZGA e2]at this;exact absurd this.symm n2
   ·by_cases e2:j=k;·rw[ZGA e1,ZGE e2]at this;exact absurd this n1
    ·rw[ZGA e1,ZGA e2]at this;exact this
 have st1:BL E objs (E.setL E.w k L) ((n,.dead)::(k,.row T ys)::substO (Di k) objs) [k]:=⟨hx,rfl,rfl,rfl,ZGR _,λ_ _ _=>rfl,λb hb=>.inr (ownb b hb),λb hb=>.inl hb,λl hl=>(none2 l hl).2,λl hl=>B4 _ _ _ (none2 l hl).1⟩;have hkx:k<nx:=ZId λhle=>by rw[r.fresh k hle]at hK;cases hK
 have ZA3:KT k nx=nx:=by
  unfold KT;split;·rename_i e;have :=ZGJ e;omega
  ·rfl
 have hm:Pe k df=false:=by
  simp only[Ly]at BH;split at BH;·simpa using BH
  ·cases BH
 have r1:BS P cx (redo n .dead (St.edit ⟨nt,tmps,objs,nx,df,wr,di,mv⟩ (some (k,.row T ys,true)))) a (E.setL E.w k L):=by
  refine⟨g1,λj hj=>?_,r.step.trans st1,r.drawn,r.size,r.df.moved hx hm,λt=>?_⟩;·have hj:KT k nx≤j:=hj;rw[ZA3]at hj;rw[B4 _ _ _ (by omega)];exact r.fresh j hj
  ·show AC P _ (Ag t (F5 (Di k) tmps)) _;rw[Mw,N1];exact RY hx (r.rep t)
 have hf:∀v c,v.isRef=true→AC P (E.setL E.w k L) v c→AC P (E.setL E.w k L) (OE n k v) c:=λv c _ h=>by
  have hi:AC P (E.setL E.w k L) (Di n v) c:=by
   unfold Di;split
   ·split;·exact .any _
    ·exact h
   ·exact h
  unfold OE;split
  ·rename_i j;split;·rename_i e;have e:=ZGJ e;subst e;obtain⟨M,hM,rfl⟩:=GQ h;rw[Qn]at hM;cases hM;exact .osl (CJ _ _ _ _)
   ·exact h
  ·exact hi
 exact⟨E.setL E.w k L,rfl,r1.subst hf rfl rfl (λ_ h=>h) (r1.good.substO hf) (r1.step.substO (f:=OE n k))⟩
theorem ZDr{n k:Nat}(v:V)(hr:v.isRef=true)(h:v.has n=false):OE n k v=v:=by cases v<;>simp only[V.isRef,ZGh]at hr<;>simp only[V.has]at h<;>simp only[OE,Di,V.key,h]
theorem jT{cx:Cx}:∀{gh:Gh}{s s':St},ghost1 gh s=some s'→Wk P cx s s'
 |.opn _,s,s',h=>by cases h|.nxt n,s,s',h=>by
  obtain⟨nt,tmps,objs,nx,df,wr,di,mv⟩:=s;simp only[ghost1]at h;split at h;·rename_i hn;cases h;have hn:=ZGk hn;rintro a w⟨E,e,r⟩;exact⟨E,e,r.good,λl hl=>r.fresh l (ZGd hn hl),r.step,r.drawn,r.size,r.df,r.rep⟩
  ·cases h|.cls l,s,s',h=>by
  simp only[ghost1]at h;split at h
  ·rename_i T xs v m ho;split at h;·rename_i y hy;cases h;rintro a w⟨E,rfl,r⟩;exact⟨E,rfl,aO ho (λ_ h=>h) (λ_ h=>yF hy h) r⟩
   ·cases h
  ·cases h|.dne l,s,s',h=>by
  simp only[ghost1]at h;split at h;·rename_i T xs m ho;cases h;rintro a w⟨E,rfl,r⟩;exact⟨E,rfl,aO ho (λ_ h=>h) (λ_ h=>zM h) r⟩
  ·cases h|.ren n k,s,s',h=>by
  simp only[ghost1]at h;split at h
  ·rename_i T ys hn;split at h
   ·rename_i hk;split at h;·cases h
    ·rename_i hne;split at h;·rename_i BH;cases h;rintro a w⟨E,rfl,r⟩;obtain⟨E',e1,r1⟩:=ZDs hn hk (ZHZ hne) BH r;exact⟨E',e1,r1⟩
     ·cases h
   ·cases h
  ·cases h|.own t T,s,s',h=>by
  obtain⟨nt,tmps,objs,nx,df,wr,di,mv⟩:=s;simp only[ghost1]at h;split at h
  ·rename_i hv;split at h;·rename_i hT;cases h;rintro a w⟨E,rfl,r⟩;have rv:=r.rep t;rw[show Ag t (St.mk nt tmps objs nx df wr di mv).tmps=.nils from hv]at rv;obtain⟨E',e1,e2,g,st,rr⟩:=Zn r.good (r.fresh nx (ZGR _)) (ZGk hT) rv;exact⟨E',e1,g,λl hl=>by have :nx+1≤l:=hl;rw[e2 l (by omega)];exact r.fresh l (by show nx≤l;omega),r.step.trans st,by rw[e1];exact r.drawn,r.size,r.df.ext st.ext,Un (λt=>(r.rep t).mono st.ext) rr⟩
   ·cases h
  ·cases h;exact .refl _
  ·cases h;exact .refl _
  ·cases h|.ownc l j T,s,s',h=>by
  obtain⟨nt,tmps,objs,nx,df,wr,di,mv⟩:=s;simp only[ghost1]at h;split at h
  ·rename_i cs hcs;split at h
   ·rename_i hv;split at h
    ·rename_i hT;cases h;rintro a w⟨E,rfl,r⟩;obtain⟨L,hL,vals,t,k1,k2,k3⟩:=r.good.at_ l _ hcs;by_cases hj:j<cs.length
     ·have rv:=k3 j hj;rw[hv]at rv;obtain⟨E',e1,e2,g,st,rr⟩:=Zn r.good (r.fresh nx (ZGR _)) (ZGk hT) rv;have hne:l≠nx:=λe=>by subst e;rw[r.fresh l (ZGR _)]at hL;cases hL
      have hL':E'.loc l=some L:=by rw[e2 l hne];exact hL
      have ho1:AB l ((nx,Obj.row T [])::objs)=some (.box cs):=by rw[BA,ZGA (ZG6 hne)];exact hcs
      have tr:∀l' o,AB l' ((l,Obj.box (Ie (.osl nx) j cs))::(nx,.row T [])::objs)=some o→∃o1 L,AB l' ((nx,Obj.row T [])::objs)=some o1∧E'.loc l'=some L∧E'.loc l'=some L∧(∀L,o.has L→o1.has L)∧(Ay P E' L o1→Ay P E' L o):=by
       intro l' o ho;rw[BA]at ho;split at ho
       ·rename_i e;subst e;cases ho;refine⟨_,L,ho1,hL',hL',λ_ _=>trivial,λhat=>?_⟩;obtain⟨uI,t2,m1,m2,m3⟩:=hat;have ZB1:uI=vals:=by rw[e1,k1]at m1;cases m1;rfl
        subst ZB1;refine⟨uI,t2,m1,by rw[bE];exact m2,λi hi=>?_⟩;rw[bE]at hi;rw[sG i hi];split;·rename_i e;subst e;exact rr
        ·exact m3 i hi
       ·obtain⟨L1,h1,h2⟩:=g.at_ l' o ho;exact⟨o,L1,ho,h1,h1,λ_ h=>h,λh=>h⟩
      refine⟨E',e1,g.sub rfl rfl tr,λl hl=>by have :nx+1≤l:=hl;rw[e2 l (by omega)];exact r.fresh l (by show nx≤l;omega),(r.step.trans st).swap tr λl' hl'=>(Is hl').2,by rw[e1];exact r.drawn,r.size,r.df.ext st.ext,λt=>(r.rep t).mono st.ext⟩
     ·rw[ZGG,ZHL (by omega)]at hv;cases hv
    ·cases h
   ·cases h;exact .refl _
   ·cases h
  ·cases h|.frz t,s,s',h=>by cases h;exact cL t 5 s|.frzl l,s,s',h=>by cases h;exact Sa l|.zero t,s,s',h=>by
  simp only[ghost1]at h;split at h
  ·rename_i l lo n hv;split at h
   ·rename_i hz;simp only[ZGW]at hz;have h1:=ZGJ hz.1;have h2:=ZGJ hz.2;subst h1 h2;split at h
    ·rename_i T xs ho;split at h;·rename_i BH;rintro a w⟨E,rfl,r⟩;have rv:=r.rep t;rw[hv]at rv;obtain⟨E',e1,g,st,rr⟩:=ZFI r.good ho rv;have r2:=BS.edit r BH (by rw[e1];exact ZGR _) g st;revert h r2;generalize s.edit (some (l,.row T [],true))=s2;intro h r2;obtain⟨nt,tmps,objs,nx,df,wr,di,mv⟩:=s2;cases h;exact⟨E',e1,r2.good,r2.fresh,r2.step,r2.drawn,r2.size,r2.df,Un r2.rep rr⟩
     ·cases h
    ·cases h
   ·cases h
  ·cases h;exact .refl _
  ·cases h;exact .refl _
  ·cases h|.frzc l j,s,s',h=>by
  simp only[ghost1]at h;split at h
  ·split at h;·cases h;exact Sa _
   ·cases h;exact .refl _
  ·cases h|.data t T,s,s',h=>by
  obtain⟨nt,tmps,objs,nx,df,wr,di,mv⟩:=s;simp only[ghost1]at h;split at h;·rename_i x hx;cases h;rintro a w⟨E,rfl,r⟩;exact⟨E,rfl,r.good,r.fresh,r.step,r.drawn,r.size,r.df,Un r.rep (Ss (lo:=E.loc) (MD hx (r.rep t)))⟩
  ·cases h
theorem Aa.ghost1:∀{gh:Gh}{s s':St},ghost1 gh s=some s'→Aa s s'
 |.opn _,s,s',h=>by cases h|.nxt n,s,s',h=>by
  obtain⟨nt,tmps,objs,nx,df,wr,di,mv⟩:=s;simp only[YtgpdnmfpgkkgcaaGreatDoor.ghost1]at h;split at h;·rename_i hn;cases h;exact⟨rfl,ZGk hn,λ_ h=>h,λ_ h=>h,λ_ h=>h,λ_ _=>rfl,λ_ _=>rfl,λ_=>rfl⟩
  ·cases h|.cls l,s,s',h=>by
  simp only[YtgpdnmfpgkkgcaaGreatDoor.ghost1]at h;split at h
  ·split at h;·cases h;exact Aa.redo
   ·cases h
  ·cases h|.dne l,s,s',h=>by
  simp only[YtgpdnmfpgkkgcaaGreatDoor.ghost1]at h;split at h;·cases h;exact Aa.redo
  ·cases h|.ren n k,s,s',h=>by
  simp only[YtgpdnmfpgkkgcaaGreatDoor.ghost1]at h;split at h
  ·split at h
   ·split at h;·cases h
    ·split at h;·cases h;exact((Aa.edit s _).trans Aa.redo).trans (Aa.subst ZDr)
     ·cases h
   ·cases h
  ·cases h|.own t T,s,s',h=>by
  obtain⟨nt,tmps,objs,nx,df,wr,di,mv⟩:=s;simp only[YtgpdnmfpgkkgcaaGreatDoor.ghost1]at h;split at h
  ·split at h;·cases h;exact⟨rfl,ZJL _,λ_ h=>ZGK _ h,λ_ h=>ZGK _ h,λ_ h=>h,λu hu=>by simp only[ZGe,ZGx]at hu;simp only;rw[DG,ZGA (ZG6 hu.1)],λk hk=>by simp only[ZGe,ZGx]at hk;simp only;rw[BA,ZGA (ZG6 hk.1)],λ_=>rfl⟩
   ·cases h
  ·cases h;exact .refl _
  ·cases h;exact .refl _
  ·cases h|.ownc l j T,s,s',h=>by
  obtain⟨nt,tmps,objs,nx,df,wr,di,mv⟩:=s;simp only[YtgpdnmfpgkkgcaaGreatDoor.ghost1]at h;split at h
  ·split at h
   ·split at h;·cases h;exact⟨rfl,ZJL _,λ_ h=>h,λ_ h=>ZGK _ (ZGK _ h),λ_ h=>h,λ_ _=>rfl,λk hk=>by simp only[ZGe,ZGx]at hk;simp only;rw[BA,ZGA (ZG6 hk.1),BA,ZGA (ZG6 hk.2.1)],λ_=>rfl⟩
    ·cases h
   ·cases h;exact .refl _
   ·cases h
  ·cases h|.frz t,s,s',h=>by cases h;exact Aa.frzT t 5 s|.frzl l,s,s',h=>by cases h;exact Aa.freeze l s|.zero t,s,s',h=>by
  simp only[YtgpdnmfpgkkgcaaGreatDoor.ghost1]at h;split at h
  ·rename_i l lo n hv;split at h
   ·split at h
    ·rename_i T xs ho;split at h;·have hi:=Aa.edit s (some (l,.row T [],true));revert h hi;generalize s.edit (some (l,.row T [],true))=s2;intro h hi;refine hi.trans ?_;obtain⟨nt,tmps,objs,nx,df,wr,di,mv⟩:=s2;cases h;exact⟨rfl,ZGR _,λ_ h=>ZGK _ h,λ_ h=>h,λ_ h=>h,λu hu=>by simp only[ZGe,ZGx]at hu;simp only;rw[DG,ZGA (ZG6 hu.1)],λ_ _=>rfl,λ_=>rfl⟩
     ·cases h
    ·cases h
   ·cases h
  ·cases h;exact .refl _
  ·cases h;exact .refl _
  ·cases h|.frzc l j,s,s',h=>by
  simp only[YtgpdnmfpgkkgcaaGreatDoor.ghost1]at h;split at h
  ·split at h;·cases h;exact Aa.freeze _ _
   ·cases h;exact .refl _
  ·cases h|.data t T,s,s',h=>by
  obtain⟨nt,tmps,objs,nx,df,wr,di,mv⟩:=s;simp only[YtgpdnmfpgkkgcaaGreatDoor.ghost1]at h;split at h;·cases h;exact⟨rfl,ZGR _,λ_ h=>ZGK _ h,λ_ h=>h,λ_ h=>h,λu hu=>by simp only[ZGe,ZGx]at hu;simp only;rw[DG,ZGA (ZG6 hu.1)],λ_ _=>rfl,λ_=>rfl⟩
  ·cases h
theorem ZDD{E:AF}{objs:AH}(g:AE P E objs){l lo n:Nat}{T:Ty}{xs:List T.den}(ho:AB l objs=some (.row T xs))(hlen:lo+n≤xs.length){c:Value}(r:AC P E (.osp l lo n) c){L:Ai}(hL:E.loc l=some L):AC P (E.still L.b ((Obj.row T xs).has L)) (.d (.sl T) ((xs.drop lo).take n)) c:=by
 obtain⟨K,hK,a,rfl,ha⟩:=KJ r;rw[hL]at hK;cases hK;have h0:=Qb g ho hL rfl (v:=.osl l) rfl (.osl hL);simp only[frz,ZK2]at h0;have h1:BZ (E.still L.b ((Obj.row T xs).has L)).w (E.still L.b ((Obj.row T xs).has L)).S (.sl T) xs [L.v]:=Mr h0;obtain⟨ER,AU,hl,_⟩:L.esz=T.size∧0<T.size∧L.len=xs.length∧xs.length≤L.cap:=by obtain⟨M,hM,hat⟩:=g.at_ l _ ho;rw[hL]at hM;cases hM;have :=aX hat;exact⟨hat.1,hat.2.1,hat.2.2.1,this⟩
 rw[Ai.v,hl]at h1;have h2:=eR h1 AU lo (lo+n) (by omega) hlen;have e:(xs.take (lo+n)).drop lo=(xs.drop lo).take n:=by rw[List.drop_take];congr 1;omega
 rw[e]at h2;by_cases hn:n=0;·subst hn;rw[ZJu];exact .d ⟨a,L.cap-lo,rfl,⟨by simp,by obtain⟨_,cap',hc,FU,_⟩:=h1;simp only[ZIh,Value.slice.injEq,and_true]at hc;show L.cap-lo≤maxLen;omega⟩,λh=>absurd rfl h⟩
 ·have hne:L.cap≠lo:=by omega
  rw[ZGA hne,←ER,←ha hne,show lo+n-lo=n from by omega]at h2;exact .d h2
def ghosts:List Gh→St→Option St|[],s=>some s|g::r,s=>match ghost1 g s with|some s'=>ghosts r s'|none=>none
theorem jU{cx:Cx}:∀{l:List Gh}{s s':St},ghosts l s=some s'→Wk P cx s s'
 |[],s,s',h=>by cases h;exact .refl _|g::r,s,s',h=>by
  simp only[ghosts]at h;split at h;·rename_i h1;exact(jT h1).trans (jU h)
  ·cases h
theorem Aa.ghosts:∀{l:List Gh}{s s':St},ghosts l s=some s'→Aa s s'
 |[],s,s',h=>by cases h;exact .refl _|g::r,s,s',h=>by
  simp only[YtgpdnmfpgkkgcaaGreatDoor.ghosts]at h;split at h;·rename_i h1;exact(Aa.ghost1 h1).trans (Aa.ghosts h)
  ·cases h
def S6(f:Nat→Prop)(i:Int)(m:Nat):Nat→Prop|0=>False|c+1=>cond (decide (i=Int.ofNat m)) (f m) (S6 f i (m+1) c)
theorem eJ{f:Nat→Prop}{i:Int}:∀{c m:Nat},S6 f i m c→∃k:Nat,i=Int.ofNat k∧f k
 |0,m,h=>h.elim|c+1,m,h=>by
  simp only[S6]at h;by_cases e:i=Int.ofNat m;·rw[ZGB e]at h;exact⟨m,e,h⟩
  ·rw[ZGF e]at h;exact eJ h
theorem sH{v:V}:∀{j:Nat}{cs:List V},j<cs.length→cs.getD j .any=v→Ie v j cs=cs|_,[],h,_=>by simp at h|0,x::r,_,e=>by simp at e;simp[Ie,e]|j+1,x::r,h,e=>by simp[Ie,sH (by simpa using h) (by simpa using e)]
def Jv:List Gh→St→(St→Prop)→Prop
 |[],s,k=>k s|.part t::r,s,k=>match Ag t s.tmps with
  |.osp l lo n=>match AB l s.objs with
   |some (.row T xs)=>lo+n≤xs.length∧match s.freeze l with|⟨nt,tmps,objs,nx,df,wr,di,mv⟩=>Jv r ⟨nt,(t,.d (.sl T) ((xs.drop lo).take n))::tmps,objs,nx,df,t::wr,di,mv⟩ k
   |_=>False
  |_=>Jv r s k
 |.cases t j n::r,s,k=>match Ag t s.tmps with
  |.ref l _=>match AB l s.objs with
   |some (.box cs)=>match cs.getD j .any with|.d (.int ik) i=>S6 (λm=>match s with|⟨nt,tmps,objs,nx,df,wr,di,mv⟩=>Jv r ⟨nt,tmps,(l,.box (Ie (.d (.int ik) (Int.ofNat m)) j cs))::objs,nx,df,wr,l::di,mv⟩ k) i 0 n|_=>False
   |_=>False
  |_=>False
 |.opn l::r,s,k=>match s with|⟨nt,tmps,objs,nx,df,wr,di,mv⟩=>match AB l objs with
  |some (.vrow T xs [] m)=>match Nat.blt 0 T.size with|true=>0<m∧Jv r ⟨nt,tmps,(l,.vrow T xs [.osl nx] (m-1))::(nx,.row T [])::objs,nx+1,df,wr,l::nx::di,mv⟩ k|false=>False
  |_=>False
 |g::r,s,k=>match ghost1 g s with|some s'=>Jv r s' k|none=>False
theorem ZC1{cx:Cx}{nt:Nat}{tmps:List (Nat×V)}{objs:AH}{nx:Nat}{df:List Df}{wr di mv:List Nat}{a:Act}{E:AF}{l:Nat}{T:Ty}{xs:List (List T.den)}{m:Nat}(ho:AB l objs=some (.vrow T xs [] m))(hT:0<T.size)(hm:0<m)(r:BS P cx ⟨nt,tmps,objs,nx,df,wr,di,mv⟩ a E):∃E',E'.w=E.w∧BS P cx ⟨nt,tmps,(l,.vrow T xs [.osl nx] (m-1))::(nx,.row T [])::objs,nx+1,df,wr,l::nx::di,mv⟩ a E':=by
 obtain⟨E',e1,e2,g,st,rr⟩:=Zn (T:=T) r.good (r.fresh nx (ZGR _)) hT (.nils none);obtain⟨L,hL,_⟩:=r.good.at_ l _ ho;have hne:nx≠l:=λe=>by rw[←e,r.fresh nx (ZGR _)]at hL;cases hL
 have r1:BS P cx ⟨nt,tmps,(nx,.row T [])::objs,nx+1,df,wr,nx::di,mv⟩ a E':=⟨g,λj hj=>by have :nx+1≤j:=hj;rw[e2 j (by omega)];exact r.fresh j (by show nx≤j;omega),r.step.trans st,by rw[e1];exact r.drawn,r.size,r.df.ext st.ext,λt=>(r.rep t).mono st.ext⟩;refine⟨E',e1,aO (l:=l) (o:=.vrow T xs [] m) (o':=.vrow T xs [.osl nx] (m-1)) (by show AB l ((nx,.row T [])::objs)=_;rw[BA,ZGA hne];exact ho) (λ_ h=>h) (λK h=>?_) r1⟩;obtain⟨h1,h2,h3,e,cs,h4,h5⟩:=h;have hlen:K.len=xs.length+[V.osl nx].length+(m-1):=by simp only[ZGL,ZGS]at h3⊢;omega
 refine⟨h1,ZGR _,hlen,e,cs,h4,?_⟩;rcases h5 with⟨h5,h6⟩|⟨cur,h5,h6,h7,h8,h9,Bx,FC,C1,G8⟩;·simp at h3;omega
 ·refine .inr ⟨cur,h5,h6,h7,h8,h9,Bx,FC,λj hj=>?_,λi hi=>G8 i (by simp only[ZGL,ZGS]at hi⊢;omega)⟩;obtain rfl:j=0:=by simp at hj;exact hj
  have :=G8 xs.length (by simp) (by simp at h3;omega);rw[ZGV,ZHw,this];exact rr
theorem O2{cx:Cx}:∀{l:List Gh}{s:St}{k:St→Prop}{a:Act}{w:World},Jv l s k→BG P cx s a w→∃s',Aa s s'∧BG P cx s' a w∧k s'
  |[],s,k,a,w,h,r=>⟨s,.refl s,r,h⟩|g::l,s,k,a,w,h,r=>by
    have plain:(match ghost1 g s with|some s'=>Jv l s' k|none=>False)→∃s',Aa s s'∧BG P cx s' a w∧k s':=λh=>by
      split at h;·rename_i s1 h1;obtain⟨s',i1,r1,k1⟩:=O2 h (jT h1 a w r);exact⟨s',(Aa.ghost1 h1).trans i1,r1,k1⟩
      ·exact h.elim
    cases g with
    |part t=>
      simp only[Jv]at h;split at h
      · rename_i o lo n hv;split at h
        · rename_i T xs ho;obtain⟨hlen,h⟩:=h;obtain⟨E,rfl,r1⟩:=r;have rv:=r1.rep t;rw[hv]at rv;obtain⟨L,hL,_⟩:=r1.good.at_ o _ ho;have hd:=ZDD r1.good ho hlen rv hL;have BO:∃E',E'.w=E.w∧(∀v c,v.fk=none→AC P (E.still L.b ((Obj.row T xs).has L)) v c→AC P E' v c)∧BS P cx (s.freeze o) a E':=by have hw:=uP (P:=P) (cx:=cx) o ho hL r1;exact⟨E.still L.b ((Obj.row T xs).has L),rfl,λv c hk hr=>hr,hw⟩
          obtain⟨E',e1,e2,r2⟩:=BO;have hi:=Aa.freeze o s;revert h r2 hi;generalize s.freeze o=s2;intro h r2 hi;obtain⟨nt,tmps,objs,nx,df,wr,di,mv⟩:=s2;simp only at h;have r3:BG P cx ⟨nt,(t,.d (.sl T) ((xs.drop lo).take n))::tmps,objs,nx,df,t::wr,di,mv⟩ a E.w:=⟨E',e1,r2.good,r2.fresh,r2.step,r2.drawn,r2.size,r2.df,Un r2.rep (e2 _ _ rfl hd)⟩;obtain⟨s',i1,r4,k1⟩:=O2 h r3;refine⟨s',(hi.trans ?_).trans i1,r4,k1⟩;exact⟨rfl,ZGR _,λ_ h=>ZGK _ h,λ_ h=>h,λ_ h=>h,λu hu=>by simp only[ZGe,ZGx]at hu;simp only;rw[DG,ZGA (ZG6 hu.1)],λ_ _=>rfl,λ_=>rfl⟩
        ·exact h.elim
      ·exact O2 h r|cases t j n=>
      simp only[Jv]at h;split at h
      · rename_i o off UA;split at h
        · rename_i cs ho;split at h
          · rename_i ik i hv;obtain⟨m,e,h⟩:=eJ h;obtain⟨E,rfl,r1⟩:=r;obtain⟨nt,tmps,objs,nx,df,wr,di,mv⟩:=s;simp only at h ho;have hj:j<cs.length:=by refine ZId λhle=>?_;rw[ZGG,ZHL hle]at hv;cases hv
            have e':i=Int.ofNat m:=e;rw[sH hj (by rw[hv,e'])]at h;have D5:∀l',AB l' ((o,Obj.box cs)::objs)=AB l' objs:=λl'=>by
              rw[BA];split;·rename_i e;rw[←e];exact ho.symm
              ·rfl
            have tr:∀l' o1,AB l' ((o,Obj.box cs)::objs)=some o1→∃o2 L,AB l' objs=some o2∧E.loc l'=some L∧E.loc l'=some L∧(∀L,o1.has L→o2.has L)∧(Ay P E L o2→Ay P E L o1):=λl' o1 h1=>by rw[D5]at h1;obtain⟨L,hL,_⟩:=r1.good.at_ l' o1 h1;exact⟨o1,L,h1,hL,hL,λ_ h=>h,λh=>h⟩
            have r2:BG P cx ⟨nt,tmps,(o,.box cs)::objs,nx,df,wr,o::di,mv⟩ a E.w:=⟨E,rfl,r1.good.sub rfl rfl tr,r1.fresh,r1.step.swap tr λl' hl'=>by rw[D5]at hl';exact hl',r1.drawn,r1.size,r1.df,r1.rep⟩;obtain⟨s',i1,r4,k1⟩:=O2 h r2;refine⟨s',Aa.trans ?_ i1,r4,k1⟩;exact⟨rfl,ZGR _,λ_ h=>h,λ_ h=>ZGK _ h,λ_ h=>h,λ_ _=>rfl,λk _=>D5 k,λ_=>rfl⟩
          ·exact h.elim
        ·exact h.elim
      ·exact h.elim|opn l=>
      obtain⟨nt,tmps,objs,nx,df,wr,di,mv⟩:=s;simp only[Jv]at h;split at h
      · rename_i T xs m ho;split at h;·rename_i hT;obtain⟨E,rfl,r1⟩:=r;obtain⟨E',e1,r2⟩:=ZC1 ho (ZGk hT) h.1 r1;obtain⟨s',i1,r4,k1⟩:=O2 h.2 (e1▸⟨E',rfl,r2⟩:BG P cx _ a E.w);refine⟨s',Aa.trans ?_ i1,r4,k1⟩;exact⟨rfl,ZJL _,λ_ h=>h,λ_ h=>ZGK _ (ZGK _ h),λ_ h=>h,λ_ _=>rfl,λk hk=>by have hk:k∉l::nx::di:=hk;simp only[ZGe,ZGx]at hk;show AB k (_::_::objs)=_;rw[BA,ZGA (ZG6 hk.1),BA,ZGA (ZG6 hk.2.1)],λ_=>rfl⟩
        ·exact h.elim
      ·exact h.elim|_=>exact plain h
def xR:Option Nat→Nat|some d=>d|none=>9999
def Pk(dst:Option Nat)(k:St→Prop)(v:V)(s:St):Prop:=match s.setT dst v with|some s'=>k s'|none=>False
def UX(i:Int)(k:V→Prop):Nat→List V→Prop|_,[]=>False|_,[v]=>k v|j,v::u::r=>cond (decide (i=(j:Int))) (k v) (UX i k (j+1) (u::r))
def nQ(τ:Ap)(t:TypeId)(x ix:V)(k:V→Prop):Prop:=match τ t with
 |some ⟨.arr n e,_,_,_,_⟩=>match x with
  |.agg cs=>match ix with
   |.d (.int _) i=>match τ e with
    |some ei=>match Nat.beq cs.length n&&Nat.beq ei.size 1&&!ei.isAgg&&ei.k.known with|true=>(0≤i∧i<(n:Int))∧UX i k 0 cs|false=>False
    |none=>False
   |_=>False
  |_=>False
 |_=>False
def Zm(os:AH):V→Option Prop
 |.d (.sl T) l=>some (l=([]:List T.den))|.nils=>some True|.osl l=>match AB l os with|some (.row T xs)=>some (xs=[])|_=>none
 |_=>none
def qJ(τ:Ap)(op:BinOp)(t:TypeId)(os:AH)(x:V)(c:Value)(k:V→Prop):Prop:=match τ t with
 |some ⟨.sl _,_,_,_,_⟩=>match c with
  |.slice none 0 0=>match Zm os x with
   |some p=>match op with|.eql=>∀b:Bool,(b=true→p)→k (.d .bool b)|.neq=>∀b:Bool,(b=true→p)→k (.d .bool !b)|_=>False
   |none=>False
  |_=>False
 |_=>False
def xW(τ:Ap)(φ:Nat→Option FX)(run:EP)(A:An)(Y:List (Nat×An)):XT:=λo s k=>match o with|⟨dst,op,_,_,_,_⟩=>match op with
 |.call {callee:=.value x,args,..}=>match Au s.tmps x with|.yl l=>cM run Y l (B3 s.tmps args.toList) s (Pk dst k)|f=>S5 τ φ run (A.call (xR dst)) Y f (B3 s.tmps args.toList) s (Pk dst k)
 |.index t x i=>nQ τ t (Au s.tmps x) (Au s.tmps i) λv=>Pk dst k v s|.binOp op t x (.const c) _=>qJ τ op t s.objs (Au s.tmps x) c λv=>Pk dst k v s|_=>False
theorem nJ{i:Int}{k:V→Prop}:∀{j:Nat}{cs:List V},UX i k j cs→(j:Int)≤i→i<(j:Int)+cs.length→∃(n:Nat)(v:V),cs[n]?=some v∧i=(j:Int)+n∧k v
 |_,[],h,_,_=>h.elim|j,[v],h,h1,h2=>⟨0,v,rfl,by simp at h2;omega,h⟩|j,v::u::r,h,h1,h2=>by
  simp only[UX]at h;by_cases e:i=(j:Int);·rw[ZGB e]at h;exact⟨0,v,rfl,by omega,h⟩
  ·rw[ZGF e]at h;simp only[ZGL]at h2;obtain⟨n,w,a1,a2,a3⟩:=nJ (j:=j+1) h (by omega) (by simp only[ZGL];omega);exact⟨n+1,w,by simpa using a1,by omega,a3⟩
theorem Ry{cx:Cx}{s s1:St}{dst:Option Nat}{k:St→Prop}{v:V}{u:Value}{a:Act}{E':AF}{next:Act→World→Prop}(hn:∀s' a' w',Aa s s'→k s'→BG P cx s' a' w'→next a' w')(hi:Aa s s1)(hk:Pk dst k v s1)(r:BS P cx s1 a E')(rv:AC P E' v u):next (a.put dst u) E'.w:=by
 unfold Pk at hk;split at hk;·rename_i s' hs;exact hn s' _ _ (hi.trans (Aa.setT hs)) hk ⟨E',rfl,BS.setT r hs rv⟩
 ·exact hk.elim
theorem ZCs{E:AF}{objs:AH}(g:AE P E objs){x:V}{p:Prop}(h:Zm objs x=some p){c:Value}(r:AC P E x c):∃a n cap,c=.slice a n cap∧(a.isNone=true→p):=by
 unfold Zm at h;split at h;·rename_i T l;cases h;obtain⟨a,cap,hc,_,hl⟩:=Mr r;refine⟨a,_,cap,(ZIk hc).1,λhn=>?_⟩;apply ZHW;intro hne;obtain⟨b,off,ha,_⟩:=hl hne;rw[ha]at hn;cases hn
 ·cases h;cases r with|nils a=>exact⟨a,0,0,rfl,λ_=>trivial⟩
 ·rename_i l;split at h
  ·rename_i T xs ho;cases h;obtain⟨L,hL,rfl⟩:=GQ r;obtain⟨K,hK,hat⟩:=g.at_ l _ ho;rw[hL]at hK;cases hK;obtain⟨_,_,_,_,_,_,⟨_,h⟩|⟨cur,h,_⟩⟩:=hat;·exact⟨_,_,_,rfl,λ_=>h⟩
   ·exact⟨_,_,_,rfl,λhn=>by rw[h]at hn;cases hn⟩
  ·cases h
 ·cases h
theorem ZAb{t e:TypeId}(h:P.underlying t=some (.slice e))(a:Option Addr)(n c:Nat)(w:World):(Op.equal t (.slice a n c) (.slice none 0 0)).run P w=.ok a.isNone w:=XI λd=>by cases a<;>simp only[Op.equalIn,ZG7,ZGX h,ZGm,ZHe,Option.isNone]
theorem uU(hτ:BQ P τ)(hφ:∀g fi,φ g=some fi→fi.Ok P g){run:EP}(hrun:Cy P run){A:An}{Y:List (Nat×An)}{r:Option Nat}{cx:Cx}:P9 P r cx (xW τ φ run A Y):=by
 intro o s k a w next Q hg h hr hn;obtain⟨dst,op,ty,po,af,guard⟩:=o;obtain⟨E,rfl,r1⟩:=hr;unfold xW at h;simp only at h;split at h
 ·rename_i x args tys;have ra:AZ P E (B3 s.tmps args.toList) (args.toList.map a.eval):=Mg λy _=>LK r1.rep y;have rx:=LK r1.rep x;split at h
  ·rename_i l hx;rw[hx]at rx;obtain⟨b,fn,tm,ag,bo,e1,e2,e3⟩:=ZFH (cs:=args.map a.eval) hrun h r1 rx (by simpa using ra) r;refine⟨λ_ _=>trivial,?_⟩;rw[ZIx _ _ _ λc=>by simp];have ZBp:(execOp a.eval ⟨dst,.call {callee:=.value x,args,argTypes:=tys},ty,po,af,guard⟩).run P E.w=.ok (.round b fn tm ag bo) E.w:=by simp[execOp,resolve,e1,Deferred.ofValue,invoke,e2]
   rw[ZBp,Oper.uponIn_round];exact⟨λh=>by simp[fz,Fence.wide]at h,e3 _ λu v s3 E' hi hk hr' hv=>Ry hn hi hk hr' hv⟩
  ·rename_i hx;obtain⟨g,p,q,e1,e2,e3⟩:=eI hτ hφ hrun h r1 rx ra;refine⟨λ_ _=>trivial,?_⟩;rw[ZIx _ _ _ λc=>by simp,WQ (o:=⟨dst,.call {callee:=.value x,args,argTypes:=tys},ty,po,af,guard⟩) rfl e2 e1,ZJ8];refine⟨λh=>by simp[fz,Fence.wide]at h,?_⟩;have :(args.toList.map a.eval).toArray=args.map a.eval:=ZJd (by rw[ZJG]);rw[this]at e3;exact e3 _ λu v s3 E' hi hk hr' hv _=>Ry hn hi hk hr' hv
 ·rename_i t x i;unfold nQ at h;split at h
  ·rename_i n e sz by_ ze co BX;split at h
   ·rename_i cs hx;split at h
    ·rename_i k' ii Ek;split at h
     ·rename_i ei hei;split at h
      ·rename_i hc;obtain⟨⟨h0,h1⟩,h2⟩:=h;simp only[ZGW]at hc;have hlen:cs.length=n:=ZGJ hc.1.1.1;obtain⟨m,v,m1,m2,m3⟩:=nJ (j:=0) h2 (by simpa using h0) (by rw[hlen];simpa using h1);have rx:=LK r1.rep x;have ri:=LK r1.rep i;rw[hx]at rx;rw[Ek]at ri;have hm:m<n:=by rw[←hlen];exact(List.getElem?_eq_some_iff.1 m1).1
       have he:QS τ t (.agg cs) (.d (.int k') (Int.ofNat m))=some ⟨none,v,none⟩:=by have hb:Nat.blt m n=true:=Nat.ble_eq_true_of_le hm;simp only[QS,BX,hei,hb,hc.1.1.2,hc.1.2,hc.2,Bool.and_self,m1]
       have ri':AC P E (.d (.int k') (Int.ofNat m)) (a.eval i):=by
        have :ii=Int.ofNat m:=by simpa using m2
        rw[this]at ri;exact ri
       have :=gY hτ he r1.good rx ri';have hran:M4 P ⟨dst,.index t x i,ty,po,af,guard⟩ a.eval E s.objs ⟨none,v,none⟩:=this.ran rfl;refine hran.did (by simp) next Q λE' u g' st hd hv=>?_;exact Ry hn (.refl s) m3 (BS.edit (ed:=none) r1 rfl hd g' st) hv
      ·exact h.elim
     ·exact h.elim
    ·exact h.elim
   ·exact h.elim
  ·exact h.elim
 ·rename_i bop t x c yt;unfold qJ at h;split at h
  ·rename_i e sz by_ ze co BX;split at h
   ·split at h
    ·rename_i p hp;have ht:P.underlying t=some (.slice e):=(hτ t _ BX).kind;obtain⟨a',n,cap,hx,PM⟩:=ZCs r1.good hp (LK r1.rep x);have heq:=ZAb (P:=P) ht a' n cap E.w;have Iw:∀op,(eqGuard op t x (.const (.slice none 0 0)) (.slice a' n cap) (.slice none 0 0)).run P E.w=.ok () E.w:=λop=>On _ _ _ _ rfl (by simp) _;split at h;·have hran:M4 P ⟨dst,.binOp .eql t x (.const (.slice none 0 0)) yt,ty,po,af,guard⟩ a.eval E s.objs ⟨none,.d .bool a'.isNone,none⟩:=(Bl.same (s:=do eqGuard .eql t x (.const (.slice none 0 0)) (a.eval x) (.slice none 0 0);Go.binOp .eql t (a.eval x) (.slice none 0 0)) r1.good (v:=.bool a'.isNone) (by rw[hx];simp only[ZG7];rw[Iw];simp only[ZGm,Go.binOp,ZG7,heq,ZHe]) (.mk_bool _)).ran rfl;refine hran.did (by simp) next Q λE' u g' st hd hv=>?_;exact Ry hn (.refl s) (h a'.isNone PM) (BS.edit (ed:=none) r1 rfl hd g' st) hv
     ·have hran:M4 P ⟨dst,.binOp .neq t x (.const (.slice none 0 0)) yt,ty,po,af,guard⟩ a.eval E s.objs ⟨none,.d .bool !a'.isNone,none⟩:=(Bl.same (s:=do eqGuard .neq t x (.const (.slice none 0 0)) (a.eval x) (.slice none 0 0);Go.binOp .neq t (a.eval x) (.slice none 0 0)) r1.good (v:=.bool !a'.isNone) (by rw[hx];simp only[ZG7];rw[Iw];simp only[ZGm,Go.binOp,ZG7,heq,ZHe]) (.mk_bool _)).ran rfl;refine hran.did (by simp) next Q λE' u g' st hd hv=>?_;exact Ry hn (.refl s) (h a'.isNone PM) (BS.edit (ed:=none) r1 rfl hd g' st) hv
     ·exact h.elim
    ·exact h.elim
   ·exact h.elim
  ·exact h.elim
 ·exact h.elim
end
section
variable {P : Program} {τ : Ap} {κ : A2} {φ : Nat → Option FX}
def Lp{σ:Type}(body:σ→(σ→Prop)→Prop)(x:σ):Prop:=∀R:σ→Prop,(∀y,body y R→R y)→R x
def Ge{σ:Type}(K:σ→Prop)(body:(σ→Prop)→Prop):Prop:=body K
def LM:Code→Option Nat
 |.region id _ _=>some id|.seq a b=>match LM a with|some n=>some n|none=>LM b
 |.cond _ a b=>match LM a with|some n=>some n|none=>LM b
 |.block _ c=>LM c|.loop c=>LM c|.scope c=>LM c|.rangeFunc _ _ a _=>LM a|_=>none
def An.join(A:An)(d:Code):Option LA:=match LM d with|some n=>A.jn n|.none=>.none
def St.add(s:St)(la:LA)(s0:St):St:=match la,s0,s with|⟨vs,es,an,dd⟩,⟨_,_,_,_,_,wr0,di0,_⟩,⟨nt,tmps,objs,nx,df,wr,di,mv⟩=>⟨nt,tmps,objs,nx,df,wr++(an++(LA.tmps vs++wr0)),di++(HQ vs++dd++di0),mv⟩
theorem V1{cx:Cx}{la:LA}{s0 s:St}{a:Act}{w:World}(h:BG P cx s a w):BG P cx (s.add la s0) a w:=by obtain⟨E,e,r⟩:=h;cases la;cases s0;cases s;exact⟨E,e,r.good,r.fresh,r.step,r.drawn,r.size,r.df,r.rep⟩
theorem eV{cx:Cx}{s:St}{a:Act}{w:World}(h:BG P cx s a w):BG P cx s.clr a w:=by obtain⟨E,e,r⟩:=h;cases s;exact⟨E,e,r.good,r.fresh,r.step,r.drawn,r.size,r.df,r.rep⟩
theorem yE{s:St}:s.clr.mv=s.mv:=by cases s;rfl
theorem lG{la:LA}{s:St}{y:FA la.vs}:∀l∈s.mv,l∈(head la s y).mv:=by cases la;cases s;exact λl hl=>ZHU _ hl
theorem V0{la:LA}{s0 s:St}(h:Hd la s0 s)(hm:∀l∈s0.mv,l∈s.mv):Aa s0 (s.add la s0):=by
 obtain⟨vs,es,an,dd⟩:=la;obtain⟨nt0,cB,ZF7,nx0,df0,wr0,di0,mv0⟩:=s0;obtain⟨nt,tmps,objs,nx,df,wr,di,mv⟩:=s;refine⟨h.nt,h.nx,λt ht=>?_,λl hl=>?_,hm,λt ht=>?_,λl hl=>?_,λhn=>?_⟩;·show t∈wr++(an++(LA.tmps vs++wr0));simp only[ZGa];exact .inr (.inr (.inr ht))
 ·show l∈di++(HQ vs++dd++di0);simp only[ZGa];exact .inr (.inr hl)
 ·have ht:t∉wr++(an++(LA.tmps vs++wr0)):=ht;simp only[ZGa,ZGx]at ht;exact h.tmp t ht.1 ht.2.1 ht.2.2.1
 ·have hl:l∉di++(HQ vs++dd++di0):=hl;simp only[ZGa,ZGx]at hl;exact h.obj l hl.1 (by show l∉HQ vs++dd;simp only[ZGa,ZGx];exact hl.2.1)
 ·have hn:nt0∉wr++(an++(LA.tmps vs++wr0)):=hn;simp only[ZGa,ZGx]at hn;exact h.df hn.1
def cE(body:St→(Exit→St→Prop)→Prop):Nat→St→(Exit→St→Prop)→Prop|0,_,_=>False|n+1,s,k=>body s λe s'=>match e with|.normal=>cE body n s' k|e=>k e s'
abbrev DT:=XT→List Oper→St→(St→Prop)→Prop
def Vt(P:Program)(D:DT):Prop:=∀(X:XT)(id:Nat)(ops:Array Oper)(s:St)(k:St→Prop)(cx:Cx)(r:Option Nat)(R:Ee),P9 P r cx X→D X ops.toList s k→∀a w,BG P cx s a w→(∀s' a' w',Aa s s'→k s'→BG P cx s' a' w'→R .normal a' w')→(Code.region id ops true).wpIn (fz r) 0 P R a w
def aC(l:Nat)(k:Exit→St→Prop)(s:St):Prop:=match s with|⟨nt,tmps,objs,nx,df,wr,di,mv⟩=>match B7 l mv with|true=>False|false=>match AB l objs with
 |some (.lrec _ _ _ _ _ st j)=>match st with|.busy=>False|_=>match j with|.no=>k .normal ⟨nt,tmps,(l,.dead)::objs,nx,df,wr,l::di,mv⟩|.ret=>k .ret ⟨nt,tmps,(l,.dead)::objs,nx,df,wr,l::di,mv⟩|.exit i=>k (.exit i) ⟨nt,tmps,(l,.dead)::objs,nx,df,wr,l::di,mv⟩
 |_=>False
def Fr(τ:Ap)(κ:A2)(φ:Nat→Option FX)(D:DT)(run:EP)(A:An)(Y:List (Nat×An))(ro:Bool):Nat→Code→St→(Exit→St→Prop)→Prop
 |_,.skip,s,k=>k .normal s|_,.label _,s,k=>k .normal s|_,.ret,s,k=>k .ret s|_,.exit i,s,k=>k (.exit i) s|_,.region id ops dr,s,k=>Jv (A.gs id) s λs1=>match ops.toList with|l=>match dr with|false=>GP τ κ (xW τ φ run A Y) l l [] s1 λs'=>k .normal s'|true=>D (xW τ φ run A Y) l s1 λs'=>k .normal s'
 |b,.seq c d,s,k=>match A.join d with
  |none=>Fr τ κ φ D run A Y ro b c s λe s'=>match e with|.normal=>Fr τ κ φ D run A Y ro b d s' k|e=>k e s'
  |some la=>Ge (λy=>Fr τ κ φ D run A Y ro b d ((head la s y).add la s) k) λJ=>Fr τ κ φ D run A Y ro b c s.clr λe s'=>match e with
   |.normal=>match back la s s' with|some y=>J y|none=>False
   |e=>k e (s'.add la s)
 |b,.cond x c d,s,k=>match Au s.tmps x with|.d .bool v=>cond v (Fr τ κ φ D run A Y ro b c s k) (Fr τ κ φ D run A Y ro b d s k)|_=>False
 |b,.block id c,s,k=>Fr τ κ φ D run A Y ro id c s λe s'=>match e with
  |.exit i=>match Nat.beq i id with|true=>k .normal s'|false=>k (.exit i) s'
  |e=>k e s'
 |b,.scope c,s,k=>Fr τ κ φ D run A Y ro b c s λe s'=>match e with|.goto _=>False|e=>k e s'
 |b,.loop c,s,k=>match ghosts (A.gs (1000+b)) s with|none=>False|some s=>match A.lp b with
  |none=>match A.un b with|some n=>cE (λs k=>Fr τ κ φ D run A Y ro b c s k) n s k|none=>False
  |some la=>match frzVs la.vs s with|s0=>match back la s0 s0.clr with
   |none=>False|some y0=>Lp (λy R=>Fr τ κ φ D run A Y ro b c (head la s0 y) λe s'=>match e with
    |.normal=>match back la s0 s' with|some y'=>R y'|none=>False
    |e=>k e (s'.add la s0)) y0
 |b,.rangeFunc g ps assign body,s,k=>match ro with|true=>False|false=>match s with|⟨nt,tmps,objs,nx,df,wr,di,mv⟩=>S5 τ φ run (A.call (5000+b)) ((nx+1,A)::Y) (Au tmps g) [.yl (nx+1)] ⟨nt,tmps,(nx+1,.lrec nt tmps ps.toList assign body .ready .no)::(nx,.dfb)::objs,nx+2,.mark nx::df,nt::wr,(nx+1)::nx::di,mv⟩ λ_ s'=>aC (nx+1) k s'
 |_,_,_,_=>False
theorem ZDz(fn:FuncId)(tmps:Array Value)(ps:Array Tmp)(assign body:Code)(w:World):(Instr.enterLoop fn tmps ps assign body (fz none).round).run P w=.ok (w.heap.size+1,[{target:=.collected w.heap.size,args:=#[]}]) ((w.alloc (.deferred (some []))).alloc (.loop {state:=.ready,pending:=none,fn,tmps,params:=ps,assign,body,defers:=w.heap.size})):=run_enterLoop_outer fn tmps ps assign body
theorem lH(w:World)(o:Go.Obj):(w.alloc o).heap[w.heap.size]?=some o:=World.alloc_heap_new w o
theorem ZDY{cx:Cx}{s:St}{a:Act}{E:AF}(r:BS P cx s a E)(fn:FuncId)(ps:Array Tmp)(assign body:Code):∃E2,E2.w=(E.w.alloc (.deferred (some []))).alloc (.loop {state:=.ready,pending:=none,fn,tmps:=a.tmps,params:=ps,assign,body,defers:=E.w.heap.size})∧CK E E2 []∧E2.loc (s.nx+1)=some {b:=E.w.heap.size+1}∧BS P cx ⟨s.nt,s.tmps,(s.nx+1,.lrec s.nt s.tmps ps.toList assign body .ready .no)::(s.nx,.dfb)::s.objs,s.nx+2,.mark s.nx::s.df,s.nt::s.wr,(s.nx+1)::s.nx::s.di,s.mv⟩ {a with defers:={target:=.collected E.w.heap.size,args:=#[]}::a.defers} E2:=by
 have YF:=r.fresh s.nx (ZGR _);have p1:=AE.push r.good (w:=E.w.alloc (.deferred (some []))) (l:=s.nx) (L:={b:=E.w.heap.size}) (o:=.dfb) YF (ZHV E.w _ none) (lH E.w _) λ_=>ZGR _;have LV:(E.setL (E.w.alloc (.deferred (some []))) s.nx {b:=E.w.heap.size}).loc (s.nx+1)=none:=by rw[B4 _ _ _ (by omega)];exact r.fresh _ (by omega)
 generalize O5:E.setL (E.w.alloc (.deferred (some []))) s.nx {b:=E.w.heap.size}=E1 at p1 LV;have hw1:E1.w=E.w.alloc (.deferred (some [])):=by rw[←O5];rfl
 have Am:E1.w.heap.size=E.w.heap.size+1:=by rw[hw1];simp
 have hx1:CK E E1 []:=p1.2.ext;have hgr:=ZHV E1.w (.loop {state:=.ready,pending:=none,fn,tmps:=a.tmps,params:=ps,assign,body,defers:=E.w.heap.size}) none;have CB:=Rw p1.1 {b:=E1.w.heap.size} LV hgr;have p2:=AE.push p1.1 (w:=E1.w.alloc (.loop {state:=.ready,pending:=none,fn,tmps:=a.tmps,params:=ps,assign,body,defers:=E.w.heap.size})) (l:=s.nx+1) (L:={b:=E1.w.heap.size}) (o:=.lrec s.nt s.tmps ps.toList assign body .ready .no) LV hgr ⟨_,lH E1.w _,r.size,λt=>((r.rep t).mono hx1).mono CB,rfl,rfl,rfl,rfl,rfl⟩ λ_=>ZGR _;refine⟨_,by rw[←hw1];rfl,?_,by rw[CJ,Am],p2.1,λl hl=>?_,(r.step.trans p1.2).trans p2.2,by show cx.E.w.drawn≤(E1.w.alloc _).drawn;rw[hw1];exact r.drawn,r.size,?_,λt=>((r.rep t).mono hx1).mono CB⟩;·simpa using hx1.trans CB
 ·have hl:s.nx+2≤l:=hl;rw[B4 _ _ _ (by omega),←O5,B4 _ _ _ (by omega)];exact r.fresh l (by omega)
 ·exact⟨_,_,rfl,⟨_,by rw[B4 _ _ _ (by omega),←O5];exact CJ _ _ _ _,rfl⟩,(r.df.ext hx1).ext CB⟩
theorem ZDX{l:Nat}{k:Exit→St→Prop}{cx:Cx}{s:St}{a:Act}{E:AF}{b:Nat}{R:Ee}(h:aC l k s)(r:BS P cx s a E)(hl:l∉s.mv→E.loc l=some {b:=b})(hk:∀e s' a' w',Aa s s'→k e s'→BG P cx s' a' w'→R e a' w'):rangePost (fz none) 0 P b R a (.returned undef) E.w:=by
 obtain⟨nt,tmps,objs,nx,df,wr,di,mv⟩:=s;unfold aC at h;simp only at h;split at h;·exact h.elim
 ·rename_i hm;have hL:=hl λA4=>by rw[F3.2 A4]at hm;cases hm
  split at h
  ·rename_i nt1 Vf ps1 as1 bo1 st j ho;obtain⟨K,hK,hat⟩:=r.good.at_ l _ ho;rw[hL]at hK;cases hK;obtain⟨q,q1,q2,q3,q4,q5,q6,q7,q8⟩:=hat;have Ab:b<E.w.heap.size:=(Array.getElem?_eq_some_iff.1 q1).1;have hgr:E.w.grownBy (E.w.putObj b (.loop {q with state:=.exhausted})) (some b):=ZKR _ _ _;have hp:=AE.put r.good (mv:=false) (o':=.dead) (L':={b:=b}) ho hL hgr (λb' e=>by cases e;exact⟨trivial,rfl⟩) (λ_=>rfl) trivial λh=>h.elim;have ZA4:st≠.busy→q.state≠.busy:=λh e=>h (q7▸e);have Hw:BG P cx ⟨nt,tmps,(l,.dead)::objs,nx,df,wr,l::di,mv⟩ a (E.w.putObj b (.loop {q with state:=.exhausted})):=by
    refine⟨_,rfl,hp.1,λk hk=>?_,r.step.trans hp.2,r.drawn,r.size,r.df.ext hp.2.ext,λt=>(r.rep t).mono hp.2.ext⟩;by_cases e:k=l;·subst e;have :=r.fresh k hk;rw[hL]at this;cases this
    ·rw[B4 _ _ _ e];exact r.fresh k hk
   have hinv:Aa ⟨nt,tmps,objs,nx,df,wr,di,mv⟩ ⟨nt,tmps,(l,.dead)::objs,nx,df,wr,l::di,mv⟩:=⟨rfl,ZGR _,λ_ h=>h,λ_ h=>ZGK _ h,λ_ h=>h,λ_ _=>rfl,λk hk=>by simp only[ZGe,ZGx]at hk;simp only;rw[BA,ZGA (ZG6 hk.1)],λ_=>rfl⟩;split at h;·exact h.elim
   ·rename_i BO;refine⟨j.code,_,by rw[←q8];exact run_endLoop q1 (ZA4 λe=>BO e),?_⟩;cases j with|no=>exact hk _ _ _ _ hinv h Hw|ret=>exact wpIn_ret (hk _ _ _ _ hinv h Hw)|exit i=>exact wpIn_exit (hk _ _ _ _ hinv h Hw)
  ·exact h.elim
end
section
variable {P : Program} {τ : Ap} {κ : A2} {φ : Nat → Option FX}
theorem uB{r:Option Nat}{cx:Cx}{R:Ee}{c:Code}{body:St→(Exit→St→Prop)→Prop}{k:Exit→St→Prop}(hb:∀(s:St)(k:Exit→St→Prop)(R:Ee),body s k→∀a w,BG P cx s a w→(∀e s' a' w',Aa s s'→k e s'→BG P cx s' a' w'→R e a' w')→c.wpIn (fz r) 0 P R a w):∀(n:Nat)(s:St),cE body n s k→∀a w,BG P cx s a w→(∀e s' a' w',Aa s s'→k e s'→BG P cx s' a' w'→R e a' w')→KP (fz r) P c R a w|0,_,h,_,_,_,_=>h.elim|n+1,s,h,a,w,hr,hk=>KP.round (hb s _ _ h a w hr λe s' a' w' hi hq hr'=>by cases e with|normal=>exact uB hb n s' hq a' w' hr' λe s'' a'' w'' hi' hq' hr''=>hk e s'' a'' w'' (hi.trans hi') hq' hr''|_=>exact hk _ s' a' w' hi hq hr')
theorem ZC2(ops:Array Oper):ops.toList.map some=(List.range ops.size).map λi=>ops[i]?:=by
 apply ZHX;intro j;simp only[ZHO,ZHG];by_cases h:j<ops.size;·rw[ZIY h];simp[h]
 ·rw[ZHL (by simp;omega),ZJV (by omega)];rfl
theorem yG(hτ:BQ P τ)(hκ:BK P κ)(hφ:∀g fi,φ g=some fi→fi.Ok P g){D:DT}(hD:Vt P D){run:EP}(hrun:Cy P run){A:An}{Y:List (Nat×An)}{r:Option Nat}{cx:Cx}:∀(c:Code)(b:Nat)(s:St)(k:Exit→St→Prop)(R:Ee),Fr τ κ φ D run A Y r.isSome b c s k→∀a w,BG P cx s a w→(∀e s' a' w',Aa s s'→k e s'→BG P cx s' a' w'→R e a' w')→c.wpIn (fz r) 0 P R a w:=by intro c;induction c with
 |skip=>intro b s k R h a w hr hk;exact wpIn_skip (hk _ s a w (.refl s) h hr)|label l=>intro b s k R h a w hr hk;exact wpIn_label (hk _ s a w (.refl s) h hr)|ret=>intro b s k R h a w hr hk;exact wpIn_ret (hk _ s a w (.refl s) h hr)|exit i=>intro b s k R h a w hr hk;exact wpIn_exit (hk _ s a w (.refl s) h hr)|goto l=>intro b s k R h a w hr hk;exact h.elim|refuse l=>intro b s k R h a w hr hk;exact h.elim|region id ops dr=>intro b s k R h a w hr hk;simp only[Fr]at h;obtain⟨s1,hi1,hr1,h⟩:=O2 h hr;cases dr with|false=>simp only at h;refine wpIn_region ?_;have :=Zs (Q:=R) hτ hκ (uU (r:=r) (cx:=cx) hτ hφ hrun) (is:=List.range ops.size) (ZC2 ops) h hr1 λs' a' w' hi hq hr'=>hk _ s' a' w' (hi1.trans hi) hq hr';exact this|true=>exact hD _ id ops s1 _ cx r R (uU hτ hφ hrun) h a w hr1 λs' a' w' hi hq hr'=>hk _ s' a' w' (hi1.trans hi) hq hr'
 |seq c d ihc ihd=>
  intro b s k R h a w hr hk;simp only[Fr]at h;split at h;·refine wpIn_seq (ihc b s _ _ h a w hr λe s' a' w' hi hq hr'=>?_);cases e with|normal=>exact ihd b s' k R hq a' w' hr' λe s'' a'' w'' hi' hq' hr''=>hk e s'' a'' w'' (hi.trans hi') hq' hr''|_=>exact hk _ s' a' w' hi hq hr'
  ·rename_i la lV;refine wpIn_seq (ihc b s.clr _ _ h a w (eV hr) λe s' a' w' hi hq hr'=>?_);have hd:Hd la s s':=(Hd.clr la s).inv hi;have Gr:∀l∈s.mv,l∈s'.mv:=λl hl=>hi.mv l (by rw[yE];exact hl);cases e with
   |normal=>
    simp only at hq;split at hq;·rename_i y hy;have RK:=WJ hr hd hy hr';exact ihd b _ k R hq a' w' (V1 RK) λe s'' a'' w'' hi' hq' hr''=>hk e s'' a'' w'' ((V0 (Hd.head la s y) lG).trans hi') hq' hr''
    ·exact hq.elim|_=>exact hk _ _ a' w' (V0 hd Gr) hq (V1 hr')
 |cond x c d ihc ihd=>
  intro b s k R h a w hr hk;simp only[Fr]at h;split at h;·rename_i v hv;obtain⟨E,rfl,r1⟩:=id hr;have rx:=LK r1.rep x;rw[hv]at rx;cases v with|true=>exact wpIn_cond rx.bool_inv (ihc b s k R h a _ hr hk)|false=>exact wpIn_cond rx.bool_inv (ihd b s k R h a _ hr hk)
  ·exact h.elim|block id c ih=>intro b s k R h a w hr hk;simp only[Fr]at h;refine wpIn_block (ih id s _ _ h a w hr λe s' a' w' hi hq hr'=>?_);cases e with
  |exit i=>
   simp only at hq;simp only[Exit.inBlock];split at hq;·rename_i e;rw[ZGE (ZGJ e)];exact hk _ s' a' w' hi hq hr'
   ·rename_i e;rw[ZGA (ZHZ e)];exact hk _ s' a' w' hi hq hr'|_=>exact hk _ s' a' w' hi hq hr'
 |scope c ih=>intro b s k R h a w hr hk;simp only[Fr]at h;refine xF (ih b s _ _ h a w hr λe s' a' w' hi hq hr'=>?_);cases e with|goto l=>exact hq.elim|_=>exact hk _ s' a' w' hi hq hr'
 |loop c ih=>
  intro b s k R h a w hr hk;simp only[Fr]at h;split at h;·exact h.elim
  ·rename_i sg UN;replace hk:∀e s' a' w',Aa sg s'→k e s'→BG P cx s' a' w'→R e a' w':=λe s' a' w' hi=>hk e s' a' w' ((Aa.ghosts UN).trans hi);replace hr:=jU UN a w hr;split at h
   ·split at h;·rename_i n hn;exact(uB (λs k R h a w hr hk=>ih b s k R h a w hr hk) n sg h a w hr hk).loop
    ·exact h.elim
   ·rename_i la lV;have Np:=Sb (P:=P) (cx:=cx) la.vs sg a w hr;have hi0:=Aa.frzVs la.vs sg;revert h Np hi0;generalize frzVs la.vs sg=s0;intro h Np hi0;split at h;·exact h.elim
    ·rename_i y0 hy0;have MI:BG P cx (head la s0 y0) a w:=WJ Np (Hd.clr la s0) hy0 (eV Np);refine KP.loop (h (λy=>∀a w,BG P cx (head la s0 y) a w→KP (fz r) P c R a w) (λy hy a w hr=>KP.round (ih b _ _ _ hy a w hr λe s' a' w' hi hq hr'=>?_)) a w MI);have hd:Hd la s0 s':=(Hd.head la s0 y).inv hi;have Gr:∀l∈s0.mv,l∈s'.mv:=λl hl=>hi.mv l (lG l hl);cases e with
     |normal=>
      simp only at hq;split at hq;·rename_i y' hy';exact hq a' w' (WJ Np hd hy' hr')
      ·exact hq.elim|_=>exact hk _ _ a' w' (hi0.trans (V0 hd Gr)) hq (V1 hr')
 |rangeFunc g ps assign body=>
  intro b s k R h a w hr hk;simp only[Fr]at h;split at h;·exact h.elim
  ·rename_i MT;have UM:r=none:=by cases r with|none=>rfl|some _=>cases MT
   subst UM;obtain⟨nt,tmps,objs,nx,df,wr,di,mv⟩:=s;simp only at h;obtain⟨E,rfl,r1⟩:=hr;refine wpIn_rangeFunc λfn _=>?_;obtain⟨E2,e1,e2,e3,r2⟩:=ZDY r1 fn ps assign body;have rg:AC P E2 (Au tmps g) (a.eval g):=(LK r1.rep g).mono e2;have ry:AZ P E2 [.yl (nx+1)] [.func (.yield (E.w.heap.size+1)) #[] #[]]:=.cons (.yl e3) .nil;obtain⟨gf,p,q,f1,f2,f3⟩:=eI hτ hφ hrun h r2 rg ry;rw[e1]at f3;refine⟨E.w.heap.size+1,_,_,⟨.fn (.func gf) q,p++#[.func (.yield (E.w.heap.size+1)) #[] #[]]⟩,(E.w.alloc (.deferred (some []))).alloc (.loop {state:=.ready,pending:=none,fn,tmps:=a.tmps,params:=ps,assign,body,defers:=E.w.heap.size}),gf,p++#[.func (.yield (E.w.heap.size+1)) #[] #[]]++q,(E.w.alloc (.deferred (some []))).alloc (.loop {state:=.ready,pending:=none,fn,tmps:=a.tmps,params:=ps,assign,body,defers:=E.w.heap.size}),ZDz fn a.tmps ps assign body E.w,?_,λ_ _=>trivial,?_,λh=>by simp[fz,Fence.wide]at h,?_⟩;·show(Deferred.ofValue (a.eval g) _).run P _=_;rw[f1];simp[rangeCall,Deferred.ofValue,show∀c,a.eval (.const c)=c from λ_=>rfl]
   ·simp only[invoke];exact WP f2 _ _
   ·have f3':=λR hR=>f3 R hR;simp only[List.toArray]at f3';refine f3' _ λu v s3 E' hi hq hr' _ hx=>?_;refine ZDX hq hr' (λhm=>?_) λe s' a' w' hi' hq' hr''=>hk e s' a' w' ?_ hq' hr'';·exact hx _ _ hm e3
    ·refine Aa.trans ?_ (hi.trans hi');exact⟨rfl,by simp only;omega,λ_ h=>ZGK _ h,λ_ h=>ZGK _ (ZGK _ h),λ_ h=>h,λ_ _=>rfl,λk hk=>by simp only[ZGe,ZGx]at hk;simp only;rw[BA,ZGA (ZG6 hk.1),BA,ZGA (ZG6 hk.2.1)],λhn=>by simp at hn⟩
def bB(τ:Ap)(κ:A2)(φ:Nat→Option FX)(D:DT):Nat→EP|0,_,_,_,_,_,_=>False|n+1,A,Y,ro,c,s,k=>Fr τ κ φ D (bB τ κ φ D n) A Y ro 0 c s k
theorem sC(hτ:BQ P τ)(hκ:BK P κ)(hφ:∀g fi,φ g=some fi→fi.Ok P g){D:DT}(hD:Vt P D):∀n,Cy P (bB τ κ φ D n)|0=>λ_ _ _ _ _ _ _ _ h=>h.elim|n+1=>λA Y r c s k cx R h a w hr hk=>yG hτ hκ hφ hD (sC hτ hκ hφ hD n) c 0 s k R h a w hr hk
end
section
variable {P : Program} {τ : Ap} {κ : A2} {φ : Nat → Option FX}
def Hq(τ:Ap)(run:EP)(A:An)(fi:FI)(ps:List PS)(rs:List Ty)(xs:Cz ps)(Q:Bq rs→Prop):Prop:=match fi with|⟨nt,res,code⟩=>match DR ps xs with|vs=>match Nat.ble vs.length nt with|false=>False|true=>run A [] false code ⟨nt,JH 0 vs,[],0,[],[],[],[]⟩ λe s=>match Ku e with|false=>False|true=>match LL τ res s with|none=>False|some (v,s2)=>match Me 9 s2.objs [v]with
 |some ([v'],_)=>match OO rs v' with|some r=>Q r|none=>False
 |_=>False
def QZ(τ:Ap)(run:EP)(A:An)(fi:FI)(ps:List PS)(xs:Cz ps)(Q:V→Prop):Prop:=match fi with|⟨nt,res,code⟩=>match DR ps xs with|vs=>match Nat.ble vs.length nt with|false=>False|true=>run A [] false code ⟨nt,JH 0 vs,[],0,[],[],[],[]⟩ λe s=>match Ku e with|false=>False|true=>match LL τ res s with|none=>False|some (v,s2)=>match Me 9 s2.objs [v]with|some ([v'],_)=>Q v'|_=>False
theorem Qg{w:World}{S:Nat→Prop}(hS:FN P w S):AE P ⟨w,S,λ_=>none⟩ []:=⟨λl o h=>(by cases h),λb h=>(by obtain⟨l,o,L,h,_⟩:=h;cases h),hS.lt,hS.tab,λi j o o' L L' h=>by cases h⟩
theorem jB(hτ:BQ P τ){run:EP}(hrun:Cy P run){A:An}{f:FuncId}{fi:FI}(hok:fi.Ok P f){ps:List PS}{rs:List Ty}{xs:Cz ps}{Q:Bq rs→Prop}(h:Hq τ run A fi ps rs xs Q){w:World}{S:Nat→Prop}(hS:FN P w S){args:Array Value}(ra:AZ P ⟨w,S,λ_=>none⟩ (DR ps xs) args.toList):Calls P f args w λe w2=>∃v S2 r,e=.returned v∧JE w S w2 S2∧AC P ⟨w2,S2,λ_=>none⟩ (AO rs r) v∧Q r:=by
 obtain⟨nt,res,code⟩:=fi;obtain⟨fn,h1,h2,h3,h4,h5⟩:=id hok;unfold Hq at h;simp only at h h3 h4;split at h;·exact h.elim
 ·rename_i hlen;have g0:AE P ⟨w,S,λ_=>none⟩ []:=Qg hS;have Hw:=QW (nx:=0) (nt:=nt) g0 (λ_ _=>rfl) ra (ZGk hlen);have hin:CallsIn (fz none) 0 P f args w λe w2=>∃v S2 r,e=.returned v∧JE w S w2 S2∧AC P ⟨w2,S2,λ_=>none⟩ (AO rs r) v∧Q r:=by
   refine ZIa h1 h2 trivial ?_;rw[h3];refine hrun A [] none code _ _ ⟨⟨w,S,λ_=>none⟩,[]⟩ _ h _ w Hw λe s1 a1 w1 hi hk hr1=>?_;have fin:Ku e=true→LeavesInM (fz none) 0 P fn a1.tmps (λe w2=>∃v S2 r,e=.returned v∧JE w S w2 S2∧AC P ⟨w2,S2,λ_=>none⟩ (AO rs r) v∧Q r) a1.defers .returning w1:=λhe=>by
    rw[he]at hk;simp only at hk;split at hk;·exact hk.elim
    ·rename_i v s2 hf;split at hk
     ·rename_i v' ks hl;split at hk
      ·rename_i r hr;refine Rh hτ (fi:=⟨nt,res,code⟩) h4 hf hr1 λu E' haft hu=>?_;have Bz:∀b,¬Bp ⟨w,S,λ_=>none⟩ [] b:=λb h=>by obtain⟨l,o,L,h,_⟩:=h;cases h
       obtain⟨S',k1,k2,_,k4,k5,k6⟩:=Ul hl haft.good (.cons hu .nil);have st:=haft.step;refine⟨u,S',r,rfl,⟨haft.drawn,st.os,st.tape,st.output,st.size,λb hb=>st.frame b hb (Bz b),λb hb=>k1 b (st.ext.S b hb).1,λb hb=>?_,k2⟩,aU (cF hr k5.head),hk⟩;rcases k6 b hb with h|h
       ·rcases st.st b h with h|h|h;·exact .inl h
        ·exact .inr h
        ·exact absurd h (Bz b)
       ·rcases st.own b h with h|h;·exact .inr h
        ·exact absurd h (Bz b)
      ·exact hk.elim
     ·exact hk.elim
   cases e with|normal=>exact fin rfl|ret=>exact fin rfl|_=>exact hk.elim
  exact callsIn_wide.1 hin
theorem ZAk(hτ:BQ P τ){run:EP}(hrun:Cy P run){A:An}{f:FuncId}{fi:FI}(hok:fi.Ok P f){ps:List PS}{xs:Cz ps}{Q:V→Prop}(h:QZ τ run A fi ps xs Q){w:World}{S:Nat→Prop}(hS:FN P w S){args:Array Value}(ra:AZ P ⟨w,S,λ_=>none⟩ (DR ps xs) args.toList):Calls P f args w λe w2=>∃v S2 r,e=.returned v∧JE w S w2 S2∧AC P ⟨w2,S2,λ_=>none⟩ r v∧Q r:=by
 obtain⟨nt,res,code⟩:=fi;obtain⟨fn,h1,h2,h3,h4,h5⟩:=id hok;unfold QZ at h;simp only at h h3 h4;split at h;·exact h.elim
 ·rename_i hlen;have g0:AE P ⟨w,S,λ_=>none⟩ []:=Qg hS;have Hw:=QW (nx:=0) (nt:=nt) g0 (λ_ _=>rfl) ra (ZGk hlen);have hin:CallsIn (fz none) 0 P f args w λe w2=>∃v S2 r,e=.returned v∧JE w S w2 S2∧AC P ⟨w2,S2,λ_=>none⟩ r v∧Q r:=by
   refine ZIa h1 h2 trivial ?_;rw[h3];refine hrun A [] none code _ _ ⟨⟨w,S,λ_=>none⟩,[]⟩ _ h _ w Hw λe s1 a1 w1 hi hk hr1=>?_;have fin:Ku e=true→LeavesInM (fz none) 0 P fn a1.tmps (λe w2=>∃v S2 r,e=.returned v∧JE w S w2 S2∧AC P ⟨w2,S2,λ_=>none⟩ r v∧Q r) a1.defers .returning w1:=λhe=>by
    rw[he]at hk;simp only at hk;split at hk;·exact hk.elim
    ·rename_i v s2 hf;split at hk
     ·rename_i v' ks hl
      ·refine Rh hτ (fi:=⟨nt,res,code⟩) h4 hf hr1 λu E' haft hu=>?_;have Bz:∀b,¬Bp ⟨w,S,λ_=>none⟩ [] b:=λb h=>by obtain⟨l,o,L,h,_⟩:=h;cases h
       obtain⟨S',k1,k2,_,k4,k5,k6⟩:=Ul hl haft.good (.cons hu .nil);have st:=haft.step;refine⟨u,S',v',rfl,⟨haft.drawn,st.os,st.tape,st.output,st.size,λb hb=>st.frame b hb (Bz b),λb hb=>k1 b (st.ext.S b hb).1,λb hb=>?_,k2⟩,eU (E:=⟨E'.w,S',E'.loc⟩) (E':=⟨E'.w,S',λ_=>none⟩) (λb hb=>⟨hb,rfl⟩) k5.head (by simp only[Dh]at k4;split at k4<;>first|(cases k4;done)|assumption),hk⟩;rcases k6 b hb with h|h
       ·rcases st.st b h with h|h|h;·exact .inl h
        ·exact .inr h
        ·exact absurd h (Bz b)
       ·rcases st.own b h with h|h;·exact .inr h
        ·exact absurd h (Bz b)
     ·exact hk.elim
   cases e with|normal=>exact fin rfl|ret=>exact fin rfl|_=>exact hk.elim
  exact callsIn_wide.1 hin
def Mc:(T:Ty)→T.den→Prop|.sl t,l=>List.length (α:=t.den) l≤9223372036854775807∧∀x∈(l:List t.den),Mc t x|.pair a b,x=>Mc a x.1∧Mc b x.2|_,_=>True
def Md:(ps:List PS)→Cz ps→Prop|[],_=>True|.d T::l,x=>Mc T x.1∧Md l x.2|.e T::l,x=>Mc T x.1∧Md l x.2|.f _ _::l,x=>Md l x.2
theorem QH{w:World}{S:Nat→Prop}:∀{T:Ty}{x:T.den}{cs:List Value},BZ w S T x cs→Mc T x|.int _,_,_,_=>trivial|.bool,_,_,_=>trivial|.str,_,_,_=>trivial|.unit,_,_,_=>trivial|.pair a b,x,cs,⟨c1,c2,_,h1,h2⟩=>⟨QH h1,QH h2⟩|.sl t,l,cs,⟨a,c,_,hc,hl⟩=>⟨ZGd hc.1 hc.2,λx hx=>by
 obtain⟨i,hi⟩:=ZIn hx;obtain⟨b,off,_,_,h⟩:=hl λe=>by subst e;simp at hi
 obtain⟨cs',h1,_⟩:=h i x hi;exact QH h1⟩
theorem TW{E:AF}:∀{T:Ty}{x:T.den},(∀v∈flat T x,∃c,AC P E v c)→Mc T x|.int _,_,_=>trivial|.bool,_,_=>trivial|.str,_,_=>trivial|.unit,_,_=>trivial|.pair a b,x,h=>⟨TW λv hv=>h v (ZHY _ hv),TW λv hv=>h v (ZHU _ hv)⟩|.sl t,l,h=>by obtain⟨c,hc⟩:=h (.d (.sl t) l) (by simp[flat]);exact QH (T:=.sl t) (Mr hc)
theorem ZDt{E:AF}{vs:List V}{cs:List Value}(r:AZ P E vs cs){v:V}(hv:v∈vs):∃c,AC P E v c:=by obtain⟨i,hi⟩:=ZIn hv;have Ab:=(List.getElem?_eq_some_iff.1 hi).1;have :=r.2 i Ab;rw[ZGG,hi]at this;exact⟨_,this⟩
theorem wY{E:AF}:∀{T:Ty}{x:T.den}{c:Value},AC P E (Ij T x) c→Mc T x|.pair a b,x,c,r=>by obtain⟨ca,rfl,rs⟩:=V2 (show AC P E (.agg (flat (.pair a b) x)) c from r);exact TW λv hv=>ZDt rs hv|.int _,_,_,_=>trivial|.bool,_,_,_=>trivial|.str,_,_,_=>trivial|.unit,_,_,_=>trivial|.sl t,l,c,r=>QH (T:=.sl t) (Mr r)
theorem P1{E:AF}:∀{ps:List PS}{xs:Cz ps}{cs:List Value},AZ P E (DR ps xs) cs→Md ps xs
 |[],_,_,_=>trivial|.d T::l,x,c::cs,r=>⟨wY r.head,P1 r.tail⟩|.d T::l,x,[],r=>absurd r.1 (by simp[DR])|.e T::l,x,c::cs,r=>by refine⟨?_,P1 r.tail⟩;have h:AC P E (.er (flat T x.1)) c:=r.head;cases h with|er f _ _ hr=>refine TW (P:=P) (E:=E) λv hv=>?_;obtain⟨i,hi⟩:=ZIn hv;have Ab:=(List.getElem?_eq_some_iff.1 hi).1;have :=hr i Ab;rw[ZGG,hi]at this;exact⟨_,this⟩
 |.e T::l,x,[],r=>absurd r.1 (by simp[DR])|.f _ _::l,x,c::cs,r=>P1 (ps:=l) r.tail|.f _ _::l,x,[],r=>absurd r.1 (by simp[DR])
theorem yK(hτ:BQ P τ){run:EP}(hrun:Cy P run){A:An}{f:FuncId}{fi:FI}(hok:fi.Ok P f){ps:List PS}{rs:List Ty}{pre:Option (Cz ps→Prop)}{fn:Cz ps→Bq rs}(h:∀xs,Md ps xs→BM (AP.ob ⟨ps,pre,λxs=>AO rs (fn xs)⟩ xs)→Hq τ run A fi ps rs xs λr=>r=fn xs):AQ P f ⟨ps,pre,λxs=>AO rs (fn xs)⟩:=⟨hok.call,λw S xs hS hp args ra=>ZH1 (jB hτ hrun hok (h xs (P1 ra) hp) hS ra) λe w2⟨v,S2,r,h1,h2,h3,h4⟩=>⟨v,S2,h1,h2,by subst h4;exact h3⟩⟩
theorem fF(hτ:BQ P τ){run:EP}(hrun:Cy P run){A:An}{f:FuncId}{fi:FI}(hok:fi.Ok P f){c:AP}(h:∀xs,Md c.ps xs→BM (c.ob xs)→QZ τ run A fi c.ps xs λr=>r=c.res xs):AQ P f c:=⟨hok.call,λw S xs hS hp args ra=>ZH1 (ZAk hτ hrun hok (h xs (P1 ra) hp) hS ra) λe w2⟨v,S2,r,h1,h2,h3,h4⟩=>⟨v,S2,h1,h2,by subst h4;exact h3⟩⟩
end
section
variable {P : Program} {τ : Ap} {κ : A2} {φ : Nat → Option FX}
def nS(n:Nat)(l:List Nat):List Nat:=match B7 n l with|true=>l|false=>n::l
def ON:List Nat→List Nat→List Nat|[],l=>l|n::r,l=>ON r (nS n l)
def Ch(i:Nat)(T:List (Nat×List Nat)):List Nat:=match Jt i T with|some l=>l|none=>[]
def Wi(T:List (Nat×List Nat)):List Edge→List Nat|[]=>[]|e::r=>match Region.binds .any e with|true=>nS e.on (ON (Ch e.on T) (Wi T r))|false=>Wi T r
def rB:Nat→List Oper→List (Nat×List Nat)→List (Nat×List Nat)|_,[],T=>T|i,⟨_,_,_,_,af,_⟩::r,T=>match Wi T af.toList with|l=>rB (i+1) r ((i,l)::T)
def M8(T:List (Nat×List Nat))(j:Nat):List Edge→Bool|[]=>false|e::r=>match Region.binds .any e with
 |true=>match Nat.beq e.on j with|true=>true|false=>match B7 j (Ch e.on T)with|true=>true|false=>M8 T j r
 |false=>M8 T j r
def OW(T:List (Nat×List Nat))(af:List Edge)(i:Nat):List Nat→Bool|[]=>true|j::r=>match M8 T j af with
 |true=>match Nat.blt j i with|true=>OW T af i r|false=>false
 |false=>false
def Nx(ps:List Nat):List Edge→Bool|[]=>true|e::r=>match Region.binds .any e with
 |true=>match B7 e.on ps with|true=>Nx ps r|false=>false
 |false=>Nx ps r
def Ru(T:List (Nat×List Nat)):Nat→List Oper→Bool|_,[]=>true|i,⟨_,_,_,_,af,_⟩::r=>match Ch i T with|ps=>match Nx ps af.toList with
 |true=>match OW T af.toList i ps with|true=>Ru T (i+1) r|false=>false
 |false=>false
theorem ZC{ps:List Nat}:∀{l:List Edge},Nx ps l=true→∀e∈l,Region.binds .any e=true→e.on∈ps
 |[],_,e,h,_=>by simp at h|e::r,h,e',he,hb=>by
  simp only[Nx]at h;split at h
  ·split at h
   ·rename_i h1;rcases List.mem_cons.1 he with rfl|he;·exact F3.1 h1
    ·exact ZC h e' he hb
   ·cases h
  ·rename_i h0;rcases List.mem_cons.1 he with rfl|he;·rw[hb]at h0;cases h0
   ·exact ZC h e' he hb
theorem dM{T:List (Nat×List Nat)}{j:Nat}:∀{l:List Edge},M8 T j l=true→∃e∈l,Region.binds .any e=true∧(e.on=j∨j∈Ch e.on T)
 |[],h=>by cases h|e::r,h=>by
  simp only[M8]at h;have rec':M8 T j r=true→∃e'∈e::r,Region.binds .any e'=true∧(e'.on=j∨j∈Ch e'.on T):=λh=>by obtain⟨e',h1,h2⟩:=dM h;exact⟨e',ZGK _ h1,h2⟩
  split at h
  ·rename_i hb;split at h;·rename_i h1;exact⟨e,by simp,hb,.inl (ZGJ h1)⟩
   ·split at h;·rename_i h1;exact⟨e,by simp,hb,.inr (F3.1 h1)⟩
    ·exact rec' h
  ·exact rec' h
theorem V3{T:List (Nat×List Nat)}{af:List Edge}{i:Nat}:∀{l:List Nat},OW T af i l=true→∀j∈l,M8 T j af=true∧j<i
 |[],_,j,h=>by simp at h|k::r,h,j,hj=>by
  simp only[OW]at h;split at h
  ·rename_i h1;split at h
   ·rename_i h2;rcases List.mem_cons.1 hj with rfl|hj;·exact⟨h1,ZGk h2⟩
    ·exact V3 h j hj
   ·cases h
  ·cases h
structure PT(ops:Array Oper)(T:List (Nat×List Nat)):Prop where
 lt:∀i j,i<ops.size→j∈Ch i T→j<i
 edge:∀i o e,ops[i]?=some o→e∈o.after→Region.binds .any e=true→e.on∈Ch i T
 back:∀i o j,ops[i]?=some o→j∈Ch i T→∃e∈o.after,Region.binds .any e=true∧(e.on=j∨j∈Ch e.on T)
theorem rA{T:List (Nat×List Nat)}:∀{l:List Oper}{i j:Nat}{o:Oper},Ru T i l=true→l[j]?=some o→Nx (Ch (i+j) T) o.after.toList=true∧OW T o.after.toList (i+j) (Ch (i+j) T)=true
 |[],_,_,_,_,h=>by simp at h|⟨_,_,_,_,af,_⟩::r,i,j,o,h,hj=>by
  simp only[Ru]at h;split at h
  ·rename_i h1;split at h;·rename_i h2;cases j with|zero=>simp at hj;subst hj;exact⟨h1,h2⟩|succ j=>have :=rA (j:=j) h (by simpa using hj);rw[show i+1+j=i+(j+1)from by omega]at this;exact this
   ·cases h
  ·cases h
theorem PT.of{ops:Array Oper}{T:List (Nat×List Nat)}(h:Ru T 0 ops.toList=true):PT ops T:=by
 have get:∀i o,ops[i]?=some o→Nx (Ch i T) o.after.toList=true∧OW T o.after.toList i (Ch i T)=true:=λi o hi=>by have :=rA (i:=0) (j:=i) h (by simpa using hi);simpa using this
 refine⟨λi j hi hj=>?_,λi o e hi he hb=>ZC (get i o hi).1 e (Array.mem_toList_iff.2 he) hb,λi o j hi hj=>?_⟩;·exact(V3 (get i ops[i] (ZHF hi)).2 j hj).2
 ·obtain⟨e,h1,h2,h3⟩:=dM (V3 (get i o hi).2 j hj).1;exact⟨e,Array.mem_toList_iff.1 h1,h2,h3⟩
structure Rc where
 i:Nat
 dst:Option Nat
 v:V
 ed:AH
 ks:List Nat
def MY:AH→List Nat|[]=>[]|(l,_)::r=>l::MY r
theorem Oz{l:Nat}:∀{a b:AH},AB l (a++b)=match AB l a with|some o=>some o|none=>AB l b
 |[],_=>rfl|(k,o)::r,b=>by
  rw[ZHb,BA,BA];split;·rfl
  ·exact Oz
theorem Re{l:Nat}{o:Obj}:∀{a:AH},AB l a=some o→l∈MY a
 |[],h=>by cases h|(k,p)::r,h=>by
  rw[BA]at h;split at h;·rename_i e;simp[MY,e]
  ·exact ZGK _ (Re h)
def Rc.app(r:Rc)(s:St):St:=match r,s with|⟨_,dst,v,ed,_⟩,⟨nt,tmps,objs,nx,df,wr,di,mv⟩=>⟨nt,match dst with|some d=>(d,v)::tmps|none=>tmps,ed++objs,nx,df,match dst with|some d=>d::wr|none=>wr,MY ed++di,mv⟩
def replay(p:Nat→Bool):List Rc→St→St|[],s=>s|r::rs,s=>replay p rs (if p r.i then r.app s else s)
def GK(p:Nat→Bool)(t:Nat):List Rc→Option V|[]=>none|r::rs=>match GK p t rs with|some v=>some v|none=>if p r.i=true∧r.dst=some t then some r.v else none
def FZ(p:Nat→Bool)(l:Nat):List Rc→Option Obj|[]=>none|r::rs=>match FZ p l rs with|some o=>some o|none=>if p r.i=true then AB l r.ed else none
theorem V9{r:Rc}{s:St}{t:Nat}:Ag t (r.app s).tmps=if r.dst=some t then r.v else Ag t s.tmps:=by obtain⟨i,dst,v,ed,ks⟩:=r;cases s;cases dst with|none=>simp[Rc.app]|some d=>simp[Rc.app,DG]
theorem dP{r:Rc}{s:St}{l:Nat}:AB l (r.app s).objs=match AB l r.ed with|some o=>some o|none=>AB l s.objs:=by obtain⟨i,dst,v,ed,ks⟩:=r;cases s;simp only[Rc.app,Oz]
theorem SG{p:Nat→Bool}{t:Nat}:∀{R:List Rc}{s:St},Ag t (replay p R s).tmps=match GK p t R with|some v=>v|none=>Ag t s.tmps
 |[],_=>rfl|r::rs,s=>by simp only[replay,GK];rw[SG (R:=rs)];cases h:GK p t rs with|some v=>rfl|none=>
  simp only;by_cases hp:p r.i=true
  ·rw[ZGE hp,V9];by_cases hd:r.dst=some t;·rw[ZGE hd,ZGE ⟨hp,hd⟩]
   ·rw[ZGA hd,ZGA λh=>hd h.2]
  ·rw[ZGA hp,ZGA λh=>hp h.1]
theorem SF{p:Nat→Bool}{l:Nat}:∀{R:List Rc}{s:St},AB l (replay p R s).objs=match FZ p l R with|some o=>some o|none=>AB l s.objs
 |[],_=>rfl|r::rs,s=>by simp only[replay,FZ];rw[SF (R:=rs)];cases h:FZ p l rs with|some v=>rfl|none=>
  simp only;by_cases hp:p r.i=true;·rw[ZGE hp,ZGE hp,dP]
  ·rw[ZGA hp,ZGA hp]
theorem VH{p:Nat→Bool}:∀{R:List Rc}{s:St},(replay p R s).nt=s.nt∧(replay p R s).nx=s.nx∧(replay p R s).df=s.df∧(replay p R s).mv=s.mv
 |[],_=>⟨rfl,rfl,rfl,rfl⟩|r::rs,s=>by
  have h:=VH (p:=p) (R:=rs) (s:=if p r.i then r.app s else s);have e:(if p r.i then r.app s else s).nt=s.nt∧(if p r.i then r.app s else s).nx=s.nx∧(if p r.i then r.app s else s).df=s.df∧(if p r.i then r.app s else s).mv=s.mv:=by
   split;·cases s;exact⟨rfl,rfl,rfl,rfl⟩
   ·exact⟨rfl,rfl,rfl,rfl⟩
  exact⟨h.1.trans e.1,h.2.1.trans e.2.1,h.2.2.1.trans e.2.2.1,h.2.2.2.trans e.2.2.2⟩
theorem ZP{p q:Nat→Bool}{l:Nat}:∀{R:List Rc},(∀r∈R,∀o,AB l r.ed=some o→p r.i=q r.i)→FZ p l R=FZ q l R|[],_=>rfl|r::rs,h=>by simp only[FZ];rw[ZP (R:=rs) λr' hr'=>h r' (ZGK _ hr')];have h0:=h r (by simp);cases BH:AB l r.ed with|none=>simp|some x=>rw[h0 x BH]
theorem ZQ{p q:Nat→Bool}{t:Nat}:∀{R:List Rc},(∀r∈R,r.dst=some t→p r.i=q r.i)→GK p t R=GK q t R
 |[],_=>rfl|r::rs,h=>by
  simp only[GK];rw[ZQ (R:=rs) λr' hr'=>h r' (ZGK _ hr')];by_cases hk:r.dst=some t;·rw[h r (by simp) hk]
  ·rw[ZGA λh=>hk h.2,ZGA λh=>hk h.2]
theorem BG.congr{cx:Cx}{s s':St}{a:Act}{E:AF}(r:BS P cx s a E)(ht:∀t,Ag t s'.tmps=Ag t s.tmps)(ho:∀l,AB l s'.objs=AB l s.objs)(Yg:s'.nt=s.nt)(X4:s'.df=s.df)(Gr:s'.mv=s.mv)(hf:∀l,s'.nx≤l→E.loc l=none):BS P cx s' a E:=by
 have tr:∀l o,AB l s'.objs=some o→∃o1 L,AB l s.objs=some o1∧E.loc l=some L∧E.loc l=some L∧(∀L,o.has L→o1.has L)∧(Ay P E L o1→Ay P E L o):=λl o h=>by rw[ho]at h;obtain⟨L,hL,_⟩:=r.good.at_ l o h;exact⟨o,L,h,hL,hL,λ_ h=>h,λh=>h⟩
 exact⟨r.good.sub rfl rfl tr,hf,by rw[Gr];exact r.step.swap tr λl hl=>by rw[ho]at hl;exact hl,r.drawn,by rw[Yg];exact r.size,by rw[X4];exact r.df,λt=>by rw[ht];exact r.rep t⟩
end
section
variable {P : Program} {τ : Ap} {κ : A2} {φ : Nat → Option FX}
mutual
def V.ks:V→List Nat|.fn _ a b=>ON (I4 a) (I4 b)|.agg cs=>I4 cs|.tup cs=>I4 cs|.er cs=>I4 cs|.when _ v=>V.ks v|.opt _ v=>V.ks v|.ref k _=>[k]|.rref k _ _=>[k]|.osl k=>[k]|.osp k _ _=>[k]|.map k=>[k]|.yl k=>[k]|.bsl k _=>[k]|_=>[]
def I4:List V→List Nat|[]=>[]|v::r=>ON (V.ks v) (I4 r)
end
def OG(objs:AH):List Nat→AH|[]=>[]|l::r=>match AB l objs with|some o=>(l,o)::OG objs r|none=>OG objs r
def S3(objs:AH):List Nat→List Nat|[]=>[]|l::r=>match AB l objs with|some (.box cs)|some (.vrow _ _ cs _)=>ON (I4 cs) (S3 objs r)|_=>S3 objs r
def Oc(op:Op)(objs:AH)(ks:List Nat):List Nat:=match op with|.load ..|.fieldAddr ..|.indexAddr ..=>ks|_=>match ON (S3 objs ks) ks with|k1=>ON (S3 objs k1) k1
theorem aW{objs:AH}{l:Nat}{o:Obj}:∀{ks:List Nat},AB l (OG objs ks)=some o→l∈ks∧AB l objs=some o
 |[],h=>by cases h|k::r,h=>by
  simp only[OG]at h;split at h
  ·rename_i p hp;rw[BA]at h;split at h;·rename_i e;subst e;cases h;exact⟨by simp,hp⟩
   ·have :=aW h;exact⟨ZGK _ this.1,this.2⟩
  ·have :=aW h;exact⟨ZGK _ this.1,this.2⟩
def SX(T:List (Nat×List Nat))(ds:List (Nat×Nat))(i:Nat)(base cur:List (Nat×V))(t:Nat):V:=match Jt t ds with|none=>Ag t base|some j=>match B7 j (Ch i T)with|true=>Ag t cur|false=>match Nat.beq j i with|true=>Ag t base|false=>match B7 i (Ch j T)with|true=>Ag t base|false=>.any
def H8(T:List (Nat×List Nat))(ds:List (Nat×Nat))(i:Nat)(base cur:List (Nat×V)):List Operand→List (Nat×V)|[]=>[]|.tmp t::r=>(t,SX T ds i base cur t)::H8 T ds i base cur r|_::r=>H8 T ds i base cur r
theorem bZ{T:List (Nat×List Nat)}{ds:List (Nat×Nat)}{i:Nat}{base cur:List (Nat×V)}{t:Nat}:∀{l:List Operand},Ag t (H8 T ds i base cur l)=SX T ds i base cur t∨Ag t (H8 T ds i base cur l)=.any|[]=>.inr rfl|x::r=>by cases x with
 |tmp u=>
  simp only[H8,DG];split;·rename_i e;subst e;exact .inl rfl
  ·exact bZ (l:=r)|_=>exact bZ (l:=r)
def LJ(op:Op)(out:Av):Av:=match op with
 |.buildSlice _ (_+1) _=>match out with
  |⟨ob,.osl k,some (l,.row T xs,false)⟩=>match Nat.beq k l with|true=>⟨ob,.d (.sl T) xs,some (l,.dead,false)⟩|false=>out
  |o=>o
 |_=>out
theorem gF(op:Op)(out:Av):(LJ op out).ob=out.ob:=by
 unfold LJ;split
 ·split;·split<;>rfl
  ·rfl
 ·rfl
theorem gE{r:Option Nat}{o:Oper}{a:Act}{E:AF}{objs:AH}{out:Av}(op:Op)(h:K9 P r o a E objs out):K9 P r o a E objs (LJ op out):=by
 unfold LJ;split
 ·split
  ·rename_i ob k l T xs;split
   ·rename_i hk;have hk:=ZGJ hk;subst hk;intro next Q hn;refine h next Q λE' v g st IH hv=>?_;have ho:AB k ((k,Obj.row T xs)::objs)=some (.row T xs):=by rw[BA,ZGE rfl]
    obtain⟨L,hL,_⟩:=g.at_ k _ ho;obtain⟨g2,s2⟩:=g.still ho hL;have hr:=Qb g ho hL rfl (v:=.osl k) rfl hv;simp only[frz,ZK2]at hr;have tr:∀l' o,AB l' ((k,Obj.dead)::objs)=some o→∃o1 L',AB l' ((k,Obj.dead)::(k,.row T xs)::objs)=some o1∧(E'.still L.b ((Obj.row T xs).has L)).loc l'=some L'∧(E'.still L.b ((Obj.row T xs).has L)).loc l'=some L'∧(∀L,o.has L→o1.has L)∧(Ay P (E'.still L.b ((Obj.row T xs).has L)) L' o1→Ay P (E'.still L.b ((Obj.row T xs).has L)) L' o):=by
     intro l' o h;have :AB l' ((k,Obj.dead)::(k,.row T xs)::objs)=some o:=by
      rw[BA]at h⊢;split at h;·rename_i e;rw[ZGE e];exact h
      ·rename_i e;rw[ZGA e,BA,ZGA e];exact h
     obtain⟨L',hL',_⟩:=g2.at_ l' o this;exact⟨o,L',this,hL',hL',λ_ h=>h,λh=>h⟩
    refine hn (E'.still L.b ((Obj.row T xs).has L)) v (g2.sub rfl rfl tr) (BL.swap (P:=P) (by simpa[moved,edit]using st.trans s2) tr λl' hl'=>?_) IH hr;obtain⟨h1,h2⟩:=Is hl';rw[BA,ZGA (ZG6 h1),BA,ZGA (ZG6 h1)];exact h2
   ·exact h
  ·exact h
 ·exact h
def gX(op:Op)(os:AH)(n:Nat)(v:V):Option (Nat×Obj×Bool)→Option (V×AH)
 |none=>some (v,[])|some (l,o,false)=>match Nat.beq l n with|true=>some (v,[(l,o)])|false=>match AB l os with|some _=>some (v,[(l,o)])|none=>none
 |some (l,o,true)=>match op with
  |.call {callee:=.builtin .append,..}=>match o with|.row T zs=>some (.osl n,[(n,.row T zs),(l,.dead)])|_=>none
  |.call {callee:=.value _,..}=>match o with|.row T zs=>some (.osl n,[(n,.row T zs),(l,.dead)])|_=>none
  |_=>none
def Tb:List Nat→AH→List (Nat×V)→Option (List (Nat×V)×AH×AH)|[],os,tm=>some (tm,os,[])|k::r,os,tm=>match AB k os with
 |some o=>match Tb r ((k,.dead)::os) (F5 (frz k o) tm)with|some (tm',os',ds)=>some (tm',os',ds++[(k,.dead)])|none=>none
 |none=>none
def TO(τ:Ap)(κ:A2)(op:Op)(tm:List (Nat×V))(os:AH)(n:Nat):Option (Option Prop×V×AH):=match Tb (P0 τ κ op tm os) os tm with|none=>none|some (tm',os',ds)=>match Lz τ κ op tm' os' n with|none=>none|some out=>match LJ op out with|⟨ob,v,ed⟩=>match gX op os' n v ed with|none=>none|some (v',es)=>some (ob,v',es++ds)
def dA(P:Program)(r:Option Nat)(o:Oper)(a:Act)(E:AF)(objs:AH)(v:V)(es:AH):Prop:=∀(next:Act→World→Prop)(Q:Ee),(∀E' u,AE P E' (es++objs)→BL E objs E' (es++objs) []→E.w.drawn≤E'.w.drawn→AC P E' v u→next (a.put o.dst u) E'.w)→o.wpIn (fz r) 0 P a E.w next Q
theorem DL.cons{os objs:AH}(h:DL os objs)(k:Nat)(o:Obj):DL ((k,o)::os) ((k,o)::objs):=λl x hx=>by
 rw[BA]at hx⊢;split at hx;·rename_i e;rw[ZGE e];exact hx
 ·rename_i e;rw[ZGA e];exact h l x hx
theorem jJ{ρ:Operand→Value}{ops:List Operand}(hρ:∀x,(∃t,x=.tmp t)∨∀E tm,AC P E (Au tm x) (ρ x)):∀{ks:List Nat}{os objs:AH}{tm tm':List (Nat×V)}{os' ds:AH}{E:AF},Tb ks os tm=some (tm',os',ds)→DL os objs→AE P E objs→(∀x∈ops,AC P E (Au tm x) (ρ x))→∃E',E'.w=E.w∧E'.loc=E.loc∧AE P E' (ds++objs)∧BL E objs E' (ds++objs) []∧DL os' (ds++objs)∧(∀x∈ops,AC P E' (Au tm' x) (ρ x))∧(∀l x,AB l ds=some x→∃y,AB l os=some y)∧∀l x,AB l os'=some x→∃y,AB l os=some y
 |[],os,objs,tm,tm',os',ds,E,h,hs,g,hr=>by cases h;exact⟨E,rfl,rfl,g,.refl _ _ _,hs,hr,λl x h=>(by cases h),λl x h=>⟨x,h⟩⟩|k::r,os,objs,tm,tm',os',ds,E,h,hs,g,hr=>by
  simp only[Tb]at h;split at h
  ·rename_i o ho;split at h
   ·rename_i tm2 os2 ds2 h2;cases h;obtain⟨L,hL,_⟩:=g.at_ k o (hs k o ho);obtain⟨g1,s1⟩:=g.still (hs k o ho) hL;have hx:CK E (E.still L.b (o.has L)) []:=⟨λb hs=>⟨.inl hs,rfl⟩,λj K _ hK=>hK⟩;have hr1:∀x∈ops,AC P (E.still L.b (o.has L)) (Au (F5 (frz k o) tm) x) (ρ x):=λx hx'=>by
     rcases hρ x with⟨t,rfl⟩|h;·show AC P _ (Ag t (F5 _ tm)) _;rw[Mw,N1];exact K6 hx.S (λv c hr h=>Qb g (hs k o ho) hL rfl hr h) (hr _ hx')
     ·exact h _ _
    obtain⟨E',e1,e2,g2,s2,k1,k2,k3,k4⟩:=jJ hρ h2 (hs.cons k .dead) g1 hr1;have ee:ds2++(k,Obj.dead)::objs=ds2++[(k,.dead)]++objs:=by simp
    rw[ee]at g2 s2 k1;have back:∀l,(∃y,AB l ((k,Obj.dead)::os)=some y)→∃y,AB l os=some y:=λl⟨y,hy⟩=>by
     rw[BA]at hy;split at hy;·rename_i e;subst e;exact⟨o,ho⟩
     ·exact⟨y,hy⟩
    refine⟨E',e1,e2,g2,by simpa using s1.trans s2,k1,k2,λl x hl=>?_,λl x hl=>back l (k4 l x hl)⟩;rw[Oz]at hl;split at hl;·rename_i y hy;exact back l (k3 l y hy)
    ·rw[BA]at hl;split at hl;·rename_i e;subst e;exact⟨o,ho⟩
     ·cases hl
   ·cases h
  ·cases h
theorem gZ(hτ:BQ P τ)(hκ:BK P κ){r:Option Nat}{o:Oper}{tm:List (Nat×V)}{os objs:AH}{n:Nat}{ob:Option Prop}{v:V}{es:AH}{E:AF}{a:Act}(h:TO τ κ o.op tm os n=some (ob,v,es))(hs:DL os objs)(ho:BM ob)(g:AE P E objs)(hf:E.loc n=none)(hr:∀x∈o.op.operands,AC P E (Au tm x) (a.eval x)):dA P r o a E objs v es∧∀l x,AB l es=some x→l=n∨∃y,AB l os=some y:=by
 unfold TO at h;split at h;·cases h
 ·rename_i tm' os' ds hfz;have hρ:∀x,(∃t,x=Operand.tmp t)∨∀E tm,AC P E (Au tm x) (a.eval x):=λx=>by cases x with|tmp t=>exact .inl ⟨t,rfl⟩|const v=>exact .inr λE tm=>Vm v|global g=>exact .inr λE tm=>.any _|func f=>exact .inr λE tm=>.fn rfl rfl (λj hj=>by simp at hj) λj hj=>by simp at hj
  obtain⟨E1,e1,e2,g1,s1,k1,k2,k3,k4⟩:=jJ (ops:=o.op.operands.toList) hρ hfz hs g λx hx=>hr x (Array.mem_toList_iff.1 hx);split at h;·cases h
  ·rename_i out he;generalize NY:LJ o.op out=out' at h;obtain⟨ob',v0,ed⟩:=out';simp only at h;split at h;·cases h
   ·rename_i v' es' BH;cases h;have D5:BM out.ob:=by rw[←gF o.op out,NY];exact ho
    have LV:E1.loc n=none:=by rw[e2];exact hf
    have hd0:=TQ (r:=r) (a:=a) hτ hκ he k1 D5 g1 LV λx hx=>k2 x (Array.mem_toList_iff.2 hx);have hd1:=gE o.op hd0;rw[NY]at hd1;have plain:∀es',(ed=none∧es'=[]∨∃l x,ed=some (l,x,false)∧es'=[(l,x)])→dA P r o a E objs v0 (es'++ds):=by
     intro es' YE next Q hn;have :=hd1 next Q;rw[e1]at this;refine this λE' u g' st IH hu=>hn E' u ?_ ?_ IH hu
     ·rcases YE with⟨rfl,rfl⟩|⟨l,x,rfl,rfl⟩;·exact g'
      ·exact g'
     ·rcases YE with⟨rfl,rfl⟩|⟨l,x,rfl,rfl⟩;·simpa[edit,moved]using s1.trans st
      ·simpa[edit,moved]using s1.trans st
    have keys:∀es',(∀l x,AB l es'=some x→l=n∨∃y,AB l os'=some y)→∀l x,AB l (es'++ds)=some x→l=n∨∃y,AB l os=some y:=λes' hk l x hx=>by
     rw[Oz]at hx;split at hx
     ·rename_i y hy;rcases hk l y hy with h|⟨z,hz⟩;·exact .inl h
      ·exact .inr (k4 l z hz)
     ·exact .inr (k3 l x hx)
    unfold gX at BH;split at BH;·cases BH;exact⟨plain [] (.inl ⟨rfl,rfl⟩),keys [] λl x h=>by cases h⟩
    ·rename_i l x;split at BH;·rename_i hb;cases BH;exact⟨plain _ (.inr ⟨l,x,rfl,rfl⟩),keys _ λl' x' h=>by
      rw[BA]at h;split at h;·rename_i e;rw[←e];exact .inl (ZGJ hb)
      ·cases h⟩
     ·split at BH;·rename_i y hy;cases BH;exact⟨plain _ (.inr ⟨l,x,rfl,rfl⟩),keys _ λl' x' h=>by
       rw[BA]at h;split at h;·rename_i e;rw[←e];exact .inr ⟨y,hy⟩
       ·cases h⟩
      ·cases BH
    ·rename_i l x;obtain⟨dst,op,ty,po,af,guard⟩:=o;split at BH
     ·rename_i args tys Cp;split at BH
      ·rename_i T zs;cases BH;simp only at Cp;subst Cp;have X7:out=⟨ob,v0,some (l,.row T zs,true)⟩:=by rw[←NY];rfl
       subst X7;simp only[Lz,QR]at he;obtain⟨al⟩:=args;obtain⟨tl⟩:=tys;simp only[Wq]at he;split at he
       ·split at he
        ·rename_i t u _ x y e3;obtain⟨b,c,rfl,rfl,rfl⟩:=Ri e3;have rb:=k2 b (by simp[Op.operands,Call.operands]);have rc:=k2 c (by simp[Op.operands,Call.operands]);obtain⟨rfl,L,xs,c1,c2,w,K,row,c3,c4,c5,c6,c7⟩:=zU (ty:=ty) hτ he k1 D5 g1 rb rc;obtain⟨E',d1,d2,d3,d4⟩:=g1.remake c1 c2 LV c3 c4 c5 c6;refine⟨λnext Q hn=>⟨λ_ _=>trivial,?_⟩,keys _ λl' x' h=>?_⟩
         ·rw[ZIx _ _ _ λc=>by simp];have hrun:(execOp a.eval ⟨dst,.call {callee:=.builtin .append,args:=⟨[b,c]⟩,argTypes:=⟨[t,u]⟩},ty,po,af,guard⟩).run P E.w=.ok (.value K.v) E'.w:=by
           have :execOp a.eval ⟨dst,.call {callee:=.builtin .append,args:=⟨[b,c]⟩,argTypes:=⟨[t,u]⟩},ty,po,af,guard⟩=(do let v←Builtin.append_ #[t,u] ty #[a.eval b,a.eval c];pure (Next.value v)):=by simp[execOp,resolve,invoke,builtin]
           rw[this,←e1,d1];simp[c7]
          rw[hrun];exact hn E' K.v (by simpa using d3) (by simpa using s1.trans d4) (by rw[←e1];exact VJ _ _ _ _ (by rw[d1];exact c7)) (.osl d2)
         ·rw[BA]at h;split at h;·rename_i e;exact .inl e.symm
          ·rw[BA]at h;split at h
           ·rename_i e;subst e;refine .inr ?_;unfold Oi at he;split at he
            ·split at he
             ·split at he
              ·split at he
               ·split at he;·cases he
                ·split at he
                 ·split at he;·rename_i hcs _;cases he;exact⟨_,hcs⟩
                  ·cases he
                 ·cases he
                ·split at he
                 ·split at he
                  ·split at he;·cases he
                   ·rename_i hcs _ _ _;cases he;exact⟨_,hcs⟩
                  ·cases he
                 ·cases he
                ·cases he
               ·cases he
              ·split at he
               ·split at he
                ·split at he;·cases he
                 ·split at he
                  ·split at he;·rename_i hcs _;cases he;exact⟨_,hcs⟩
                   ·cases he
                  ·cases he
                 ·cases he
                ·cases he
               ·cases he
             ·cases he
            ·cases he
           ·cases h
        ·cases he
       ·cases he
      ·cases BH
     ·rename_i x args tys Cp;split at BH
      ·rename_i T zs;cases BH;simp only at Cp;subst Cp;have X7:out=⟨ob,v0,some (l,.row T zs,true)⟩:=by rw[←NY];rfl
       subst X7;simp only[Lz]at he;split at he
       ·rename_i rc B9;obtain⟨gf,q1,q2,T0,q3⟩:=sA hκ B9 he k1 D5 g1 (k2 x (by simp[Op.operands,Call.operands])) (Mg λy hy=>k2 y (by simp only[Op.operands,Call.operands];simp[Array.mem_toList_iff.1 hy]));rcases q3 with⟨_,_,q4,_⟩|⟨l',L,xs,zs',q0,hL,q4,q5,hc⟩;·cases q4
        ·obtain⟨rfl,hzz,_⟩:l=l'∧Obj.row T zs=Obj.row T0 zs'∧True:=by have :=ZH7 q5;simp only[ZIN]at this;exact⟨this.1,this.2.1,trivial⟩
         cases hzz;refine⟨λnext Q hn=>?_,keys _ λl' x' h=>?_⟩;·have nC:=QG (r:=r) (o:=⟨dst,.call {callee:=.value x,args:=args,argTypes:=tys},ty,po,af,guard⟩) (a:=a) (E:=E1) rfl q1 q2 hc (next:=next) (Q:=Q) (by rintro e w2⟨K,rfl,row,c3,c4,c5,c6,c7⟩;obtain⟨E',d1,d2,d3,d4⟩:=g1.remake (k1 _ _ q0) hL LV c3 c4 c5 c6;refine⟨_,rfl,?_⟩;rw[←d1];exact hn E' K.v (by simpa using d3) (by simpa using s1.trans d4) (by rw[←e1,d1];exact c7) (.osl d2));rw[e1]at nC;exact nC
         ·rw[BA]at h;split at h;·rename_i e;exact .inl e.symm
          ·rw[BA]at h;split at h;·rename_i e;subst e;exact .inr ⟨_,q0⟩
           ·cases h
       ·split at he
        ·unfold TA at he;split at he
         ·split at he;·split at he<;>cases he
          ·cases he
         ·split at he;·split at he<;>cases he
          ·cases he
        ·split at he<;>cases he
      ·cases BH
     ·cases BH
def gW(n:Nat):Option (Nat×Obj×Bool)→Option AH
 |none=>some []|some (l,.dead,false)=>match Nat.beq l n with|true=>some [(l,.dead)]|false=>none
 |_=>none
def Oe(τ:Ap)(κ:A2)(dec g:Bool)(i:Nat)(dst:Option Nat)(op:Op)(tm:List (Nat×V))(os:AH)(ks:List Nat)(n:Nat):Option (Option Prop×Rc):=match dec with|false=>none|true=>match g with
 |true=>match TO τ κ op (QE op tm) os n with|some (ob,v,es)=>some (O4 true (Lx op tm) ob,⟨i,dst,v,es,MY es++(V.ks v++ks)⟩)|none=>none
 |false=>some (none,⟨i,dst,.when false (.d .bool false),[],ks⟩)
theorem gH{dec g:Bool}{i:Nat}{dst:Option Nat}{op:Op}{tm:List (Nat×V)}{os:AH}{ks:List Nat}{n:Nat}{ob:Option Prop}{rc:Rc}(h:Oe τ κ dec g i dst op tm os ks n=some (ob,rc)):rc.i=i∧rc.dst=dst:=by
 unfold Oe at h;split at h;·cases h
 ·split at h
  ·split at h;·cases h;exact⟨rfl,rfl⟩
   ·cases h
  ·cases h;exact⟨rfl,rfl⟩
def Pn(τ:Ap)(κ:A2)(dec:Bool)(T:List (Nat×List Nat))(ds:List (Nat×Nat))(ops:List Oper)(n0:Nat)(base:List (Nat×V))(i:Nat)(o:Oper)(cur:St):Option (Option Prop×Rc):=match o,cur with|⟨dst,op,_,_,_,guard⟩,⟨_,tmps,objs,_,_,_,_,_⟩=>match H8 T ds i base tmps op.operands.toList with|tm=>match Oc op objs (I4 (B3 tm op.operands.toList))with|ks=>match OG objs ks with|os=>match guard with
 |none=>match TO τ κ op tm os (n0+i)with|some (ob,v,es)=>some (ob,⟨i,dst,v,es,MY es++(V.ks v++ks)⟩)|none=>none
 |some (j,want)=>match Qe ops j with|none=>none|some gd=>match Qj want (SX T ds i base tmps gd)with|none=>none|some g=>match Lz τ κ op (QE op tm) os (n0+i)with
  |some out=>match LJ op out with|⟨ob,v,ed⟩=>match gW (n0+i) ed with|some es=>some (O4 g (Lx op tm) ob,⟨i,dst,.when g v,es,MY es++(V.ks v++ks)⟩)|none=>Oe τ κ dec g i dst op tm os ks (n0+i)
  |none=>Oe τ κ dec g i dst op tm os ks (n0+i)
def O3(τ:Ap)(κ:A2)(dec:Bool)(T:List (Nat×List Nat))(ds:List (Nat×Nat))(ops:List Oper)(n0:Nat)(base:List (Nat×V)):Nat→List Oper→St→Option (List (Option Prop)×List Rc×St)|_,[],s=>some ([],[],s)|i,o::r,s=>match Pn τ κ dec T ds ops n0 base i o s with|none=>none|some (ob,rc)=>match rc.app s with|⟨nt,tmps,objs,nx,df,wr,di,mv⟩=>match O3 τ κ dec T ds ops n0 base (i+1) r ⟨nt,tmps,objs,nx,df,wr,di,mv⟩with|none=>none|some (obs,R,s')=>some (ob::obs,rc::R,s')
def V4:List (Option Prop)→Prop→Prop|[],k=>k|ob::r,k=>M7 ob (V4 r k)
theorem dJ{k:Prop}:∀{l:List (Option Prop)},V4 l k→(∀ob∈l,BM ob)∧k|[],h=>⟨λob hb=>by simp at hb,h⟩|ob::r,h=>by obtain⟨h1,h2⟩:=V8 h;obtain⟨h3,h4⟩:=dJ h2;exact⟨λq hq=>(List.mem_cons.1 hq).elim (λe=>e▸h1) (h3 q),h4⟩
theorem aR{p:Nat→Bool}:∀{A B:List Rc}{s:St},replay p (A++B) s=replay p B (replay p A s)|[],_,_=>rfl|r::rs,B,s=>by simp only[ZHb,replay];exact aR
theorem aS{p:Nat→Bool}:∀{B:List Rc}{s:St},(∀r∈B,p r.i=false)→replay p B s=s|[],_,_=>rfl|r::rs,s,h=>by simp only[replay];rw[h r (by simp)];exact aS λr' hr'=>h r' (ZGK _ hr')
theorem SE{p q:Nat→Bool}:∀{B:List Rc}{s:St},(∀r∈B,p r.i=q r.i)→replay p B s=replay q B s|[],_,_=>rfl|r::rs,s,h=>by simp only[replay];rw[h r (by simp)];exact SE λr' hr'=>h r' (ZGK _ hr')
theorem aK{dec:Bool}{T:List (Nat×List Nat)}{ds:List (Nat×Nat)}{ops:List Oper}{n0:Nat}{base:List (Nat×V)}{i:Nat}{o:Oper}{cur:St}{ob:Option Prop}{rc:Rc}(h:Pn τ κ dec T ds ops n0 base i o cur=some (ob,rc)):rc.i=i∧rc.dst=o.dst:=by
 obtain⟨dst,op,ty,po,af,guard⟩:=o;cases cur;simp only[Pn]at h;split at h
 ·split at h;·cases h;exact⟨rfl,rfl⟩
  ·cases h
 ·split at h;·cases h
  ·split at h;·cases h
   ·split at h
    ·split at h;·cases h;exact⟨rfl,rfl⟩
     ·exact gH h
    ·exact gH h
theorem jV{dec:Bool}{T:List (Nat×List Nat)}{ds:List (Nat×Nat)}{ops:List Oper}{n0:Nat}{base:List (Nat×V)}{s0:St}:∀{l:List Oper}{i:Nat}{cur send:St}{R0 R':List Rc}{obs:List (Option Prop)},O3 τ κ dec T ds ops n0 base i l cur=some (obs,R',send)→(∀r∈R0,r.i<i)→cur=replay (λ_=>true) R0 s0→R'.Pairwise (λa b=>a.i<b.i)∧(∀r∈R',i≤r.i∧r.i<i+l.length)∧send=replay (λ_=>true) (R0++R') s0∧∀j o,l[j]?=some o→∃ob rc,Pn τ κ dec T ds ops n0 base (i+j) o (replay (λk=>decide (k<i+j)) (R0++R') s0)=some (ob,rc)∧ob∈obs∧rc∈R'
 |[],i,cur,send,R0,R',obs,h,h1,h2=>by simp only[O3,ZHl,ZIN]at h;obtain⟨rfl,rfl,rfl⟩:=h;exact⟨.nil,λr hr=>by simp at hr,by simpa using h2,λj o hj=>by simp at hj⟩|o::r,i,cur,send,R0,R',obs,h,h1,h2=>by
  simp only[O3]at h;split at h;·cases h
  ·rename_i ob rc B9;split at h;·cases h
   ·rename_i obs2 R2 s2 hg;cases h;have hi:=(aK B9).1;have ih:=jV (R0:=R0++[rc]) hg λr hr=>by
     rcases List.mem_append.1 hr with hr|hr;·exact Nat.lt_succ_of_lt (h1 r hr)
     ·simp at hr;subst hr;omega (by rw[aR,←h2];rfl);obtain⟨k0,k1,k2,k3⟩:=ih;have e:R0++[rc]++R2=R0++rc::R2:=by simp
    rw[e]at k2 k3;refine⟨List.pairwise_cons.2 ⟨λr' hr'=>by have :=k1 r' hr';omega,k0⟩,λr' hr'=>?_,k2,λj o' hj=>?_⟩
    ·rcases List.mem_cons.1 hr' with rfl|hr';·simp;omega
     ·have :=k1 r' hr';simp;omega
    ·cases j with|zero=>
     simp at hj;subst hj;refine⟨ob,rc,?_,by simp,by simp⟩;have :replay (λk=>decide (k<i+0)) (R0++rc::R2) s0=cur:=by
      rw[aR,aS,h2];·exact SE λr' hr'=>by simpa using h1 r' hr'
      ·intro r' hr';rcases List.mem_cons.1 hr' with rfl|hr';·simp;omega
       ·have :=k1 r' hr';simp;omega
     rw[this];exact B9|succ j=>obtain⟨ob',rc',m1,m2,m3⟩:=k3 j o' (by simpa using hj);rw[show i+1+j=i+(j+1)from by omega]at m1;exact⟨ob',rc',m1,ZGK _ m2,ZGK _ m3⟩
def In:AH→List Nat→Bool|[],_=>true|(l,_)::r,ks=>match B7 l ks with|true=>false|false=>In r ks
theorem gJ{l:Nat}{o:Obj}{ks:List Nat}:∀{e:AH},In e ks=true→AB l e=some o→l∉ks
 |[],_,h=>by cases h|(k,p)::r,hd,h=>by
  simp only[In]at hd;split at hd;·cases hd
  ·rename_i hk;rw[BA]at h;split at h;·rename_i e;subst e;exact λhm=>by rw[F3.2 hm]at hk;cases hk
   ·exact gJ hd h
def N8(T:List (Nat×List Nat))(r:Rc):List Rc→Bool|[]=>true|q::l=>match B7 r.i (Ch q.i T)with|true=>N8 T r l|false=>match B7 q.i (Ch r.i T)with|true=>N8 T r l|false=>match In r.ed q.ks with
 |true=>match In q.ed r.ks with|true=>N8 T r l|false=>false
 |false=>false
def Rq(T:List (Nat×List Nat)):List Rc→Bool|[]=>true|r::l=>match N8 T r l with|true=>Rq T l|false=>false
def NH(nt:Nat)(ds:List (Nat×Nat)):List Rc→Bool
 |[]=>true|⟨i,some d,_,_,_⟩::l=>match Jt d ds with
  |some j=>match Nat.beq j i with
   |true=>match Nat.blt d nt with|true=>NH nt ds l|false=>false
   |false=>false
  |none=>false
 |_::l=>NH nt ds l
theorem Zx{T:List (Nat×List Nat)}{r:Rc}:∀{l:List Rc},N8 T r l=true→∀q∈l,r.i∈Ch q.i T∨q.i∈Ch r.i T∨In r.ed q.ks=true∧In q.ed r.ks=true
 |[],_,q,h=>by simp at h|q'::l,h,q,hq=>by
  simp only[N8]at h;have key:(q=q'→r.i∈Ch q.i T∨q.i∈Ch r.i T∨In r.ed q.ks=true∧In q.ed r.ks=true)→N8 T r l=true→r.i∈Ch q.i T∨q.i∈Ch r.i T∨In r.ed q.ks=true∧In q.ed r.ks=true:=λh1 h2=>(List.mem_cons.1 hq).elim h1 (Zx h2 q);split at h;·rename_i h1;exact key (λe=>.inl (e▸F3.1 h1)) h
  ·split at h;·rename_i h1;exact key (λe=>.inr (.inl (e▸F3.1 h1))) h
   ·split at h
    ·rename_i h1;split at h;·rename_i h2;exact key (λe=>.inr (.inr (e▸⟨h1,h2⟩))) h
     ·cases h
    ·cases h
theorem Z2{T:List (Nat×List Nat)}:∀{l:List Rc},Rq T l=true→∀r∈l,∀q∈l,r=q∨r.i∈Ch q.i T∨q.i∈Ch r.i T∨In r.ed q.ks=true∧In q.ed r.ks=true
 |[],_,r,h,_,_=>by simp at h|x::l,h,r,hr,q,hq=>by
  simp only[Rq]at h;split at h
  ·rename_i h1;rcases List.mem_cons.1 hr with hr1|hr1
   ·rcases List.mem_cons.1 hq with hq1|hq1;·exact .inl (hr1.trans hq1.symm)
    ·rw[hr1];exact .inr (Zx h1 q hq1)
   ·rcases List.mem_cons.1 hq with hq1|hq1
    ·rw[hq1];rcases Zx h1 r hr1 with h|h|h;·exact .inr (.inr (.inl h))
     ·exact .inr (.inl h)
     ·exact .inr (.inr (.inr ⟨h.2,h.1⟩))
    ·exact Z2 h r hr1 q hq1
  ·cases h
theorem NI{nt:Nat}{ds:List (Nat×Nat)}:∀{l:List Rc},NH nt ds l=true→∀r∈l,∀d,r.dst=some d→Jt d ds=some r.i∧d<nt|[],_,r,h,_,_=>by simp at h|⟨i,dst,v,ed,ks⟩::l,h,r,hr,d,hd=>by cases dst with
 |none=>
  simp only[NH]at h;rcases List.mem_cons.1 hr with rfl|hr;·cases hd
  ·exact NI h r hr d hd|some d'=>
  simp only[NH]at h;split at h
  ·rename_i j hj;split at h
   ·rename_i h1;split at h
    ·rename_i h2;rcases List.mem_cons.1 hr with rfl|hr;·cases hd;rw[hj,ZGJ h1];exact⟨rfl,ZGk h2⟩
     ·exact NI h r hr d hd
    ·cases h
   ·cases h
  ·cases h
end
section
variable {P : Program} {τ : Ap} {κ : A2} {φ : Nat → Option FX}
theorem oJ{p:Nat→Bool}{l:Nat}:∀{A B:List Rc},FZ p l (A++B)=match FZ p l B with|some o=>some o|none=>FZ p l A
 |[],B=>by simp only[ZG8,FZ];split<;>simp_all|r::A,B=>by simp only[ZHb,FZ];rw[oJ (A:=A)];cases h:FZ p l B with|some o=>rfl|none=>rfl
theorem oL{p:Nat→Bool}{l:Nat}:∀{A B:List Rc},GK p l (A++B)=match GK p l B with|some o=>some o|none=>GK p l A
 |[],B=>by simp only[ZG8,GK];split<;>simp_all|r::A,B=>by simp only[ZHb,GK];rw[oL (A:=A)];cases h:GK p l B with|some o=>rfl|none=>rfl
theorem oK{p:Nat→Bool}{l:Nat}:∀{A:List Rc},(∀r∈A,∀o,AB l r.ed=some o→p r.i=false)→FZ p l A=none|[],_=>rfl|r::A,h=>by simp only[FZ];rw[oK (A:=A) λr' hr'=>h r' (ZGK _ hr')];cases BH:AB l r.ed with|none=>simp|some x=>simp[h r (by simp) x BH]
theorem Rf{p:Nat→Bool}{t:Nat}:∀{A:List Rc},(∀r∈A,r.dst=some t→p r.i=false)→GK p t A=none|[],_=>rfl|r::A,h=>by simp only[GK];rw[Rf (A:=A) λr' hr'=>h r' (ZGK _ hr')];simp only;rw[ZGA];rintro⟨h1,h2⟩;rw[h r (by simp) h2]at h1;cases h1
def Gf(L:Nat→Bool)(i:Nat):Nat→Bool:=λj=>L j||decide (j=i)
theorem ZAx(hτ:BQ P τ)(hκ:BK P κ){dec:Bool}{r:Option Nat}{cx:Cx}{ops:Array Oper}{T:List (Nat×List Nat)}(hT:PT ops T){ds:List (Nat×Nat)}{n0 i:Nat}{o:Oper}{ob:Option Prop}{rc:Rc}{R:List Rc}{s0:St}(hi:ops[i]?=some o)(B9:Pn τ κ dec T ds ops.toList n0 s0.tmps i o (replay (λk=>decide (k<i)) R s0)=some (ob,rc))(ho:BM ob)(A4:rc∈R)(Ko:R.Pairwise λa b=>a.i<b.i)(hp:Rq T R=true)(hd:NH s0.nt ds R=true)(Ab:∀q∈R,q.i<ops.size)(B2:s0.nx=n0+ops.size){L:Nat→Bool}(hL:L i=false)(lD:∀q∈R,L q.i=true→∀j∈Ch q.i T,(∃q'∈R,q'.i=j)→L j=true)(mI:∀j∈Ch i T,(∃q'∈R,q'.i=j)→L j=true){a:Act}{E:AF}(hr:BS P cx (replay L R s0) a E)(hf:∀q∈R,L q.i=false→E.loc (n0+q.i)=none){Q:Ee}{K:Act→World→Prop}(hK:∀a' E',BS P cx (replay (Gf L i) R s0) a' E'→(∀q∈R,Gf L i q.i=false→E'.loc (n0+q.i)=none)→K a' E'.w):wpOpIn (fz r) 0 P ops Q i K a E.w:=by
  have Ek:=(aK B9).1;have hdst:=(aK B9).2;have T3:i<ops.size:=(Array.getElem?_eq_some_iff.1 hi).1;have Y7:∀q∈R,q.i=i→q=rc:=λq hq e=>by
    rcases Z2 hp q hq rc A4 with h|h|h|_;·exact h
    ·rw[Ek]at h;have :=hT.lt i q.i T3 h;omega
    ·rw[e]at h;rw[Ek]at h;have :=hT.lt i i T3 h;omega
    · obtain⟨A,B,Ei⟩:=ZK1 A4;rw[Ei]at Ko hq;rw[ZJl]at Ko;obtain⟨_,h2,h3⟩:=Ko;rcases List.mem_append.1 hq with h|h;·have :=h3 q h rc (by simp);omega
      · rcases List.mem_cons.1 h with h|h;·exact h
        ·have :=(List.pairwise_cons.1 h2).1 q h;omega
  obtain⟨A,B,Ei⟩:=ZK1 A4;have hA:∀q∈A,q.i<i:=λq hq=>by rw[Ei,ZJl]at Ko;have :=Ko.2.2 q hq rc (by simp);omega
  have hB:∀q∈B,i<q.i:=λq hq=>by rw[Ei,ZJl]at Ko;have :=(List.pairwise_cons.1 Ko.2.1).1 q hq;omega
  have mG:∀q∈R,∀l x,AB l q.ed=some x→l∈rc.ks→decide (q.i<i)=L q.i∨q=rc:=λq hq l x BH hl=>by
    rcases Z2 hp q hq rc A4 with h|h|h|h;·exact .inr h
    ·rw[Ek]at h;have h1:=hT.lt i q.i T3 h;have h2:=mI q.i h ⟨q,hq,rfl⟩;rw[h2];left;simpa using h1
    ·rw[Ek]at h;have h1:=hT.lt q.i i (Ab q hq) h;left;cases hLq:L q.i with|false=>simp;omega|true=>rw[lD q hq hLq i h ⟨rc,A4,Ek⟩]at hL;cases hL
    ·exact absurd hl (gJ h.1 BH)
  have Al:∀l∈rc.ks,AB l (replay (λk=>decide (k<i)) R s0).objs=AB l (replay L R s0).objs:=λl hl=>by
    rw[SF,SF,ZP (p:=λk=>decide (k<i)) (q:=L)];intro q hq x BH;rcases mG q hq l x BH hl with h|h;·exact h
    ·subst h;rw[Ek,hL];simp
  have hval:∀t,AC P E (SX T ds i s0.tmps (replay (λk=>decide (k<i)) R s0).tmps t) (a.tmps.getD t undef):=λt=>by
    have IQ:=hr.rep t;rw[SG]at IQ;unfold SX;split
    · rename_i hn;rw[Rf]at IQ;·exact IQ
      ·intro q hq HJ;rw[(NI hd q hq t HJ).1]at hn;cases hn
    · rename_i j hj;have hq:∀q∈R,q.dst=some t→q.i=j:=λq hq HJ=>by have :=(NI hd q hq t HJ).1;rw[hj]at this;cases this;rfl
      split
      · rename_i hm;rw[SG,ZQ (p:=λk=>decide (k<i)) (q:=L)];·exact IQ
        ·intro q MS HJ;have e:=hq q MS HJ;rw[e];have hm:=F3.1 hm;rw[mI j hm ⟨q,MS,e⟩];have :=hT.lt i j T3 hm;simpa using this
      · split
        · rename_i he;have he:=ZGJ he;rw[Rf]at IQ;·exact IQ
          ·intro q MS HJ;rw[hq q MS HJ,he];exact hL
        · split
          · rename_i hm;have hm:=F3.1 hm;rw[Rf]at IQ;·exact IQ
            ·intro q MS HJ;rw[hq q MS HJ];cases hLj:L j with|false=>rfl|true=>have e:=hq q MS HJ;have :=lD q MS (by rw[e];exact hLj) i (by rw[e];exact hm) ⟨rc,A4,Ek⟩;rw[hL]at this;cases this
          ·exact .any _
  have ZBD:∀d,o.dst=some d→d<a.tmps.size:=λd Iv=>by have :=(NI hd rc A4 d (hdst.trans Iv)).2;have h1:a.tmps.size=s0.nt:=hr.size.trans (VH (p:=L) (R:=R) (s:=s0)).1;rw[h1];exact this
  have behind:∀E' u,AE P E' (rc.ed++(replay L R s0).objs)→BL E (replay L R s0).objs E' (rc.ed++(replay L R s0).objs) []→E.w.drawn≤E'.w.drawn→AC P E' rc.v u→(∀l x,AB l rc.ed=some x→l=n0+i∨∃y,AB l (replay L R s0).objs=some y)→(∀l x,AB l rc.ed=some x→l∈rc.ks)→K (a.put o.dst u) E'.w:=by
    intro E' u g st IH hu Q4 IL;obtain⟨e1,e2,e3,e4⟩:=VH (p:=L) (R:=R) (s:=s0);obtain⟨f1,f2,f3,f4⟩:=VH (p:=Gf L i) (R:=R) (s:=s0);have KB:∀l,E.loc l=none→l≠n0+i→E'.loc l=none:=λl hl hne=>by
      have h1:AB l (replay L R s0).objs=none:=by cases h:AB l (replay L R s0).objs with|none=>rfl|some x=>obtain⟨K,hK,_⟩:=hr.good.at_ l x h;rw[hl]at hK;cases hK
      rw[st.dom l ?_];·exact hl
      ·rw[Oz];cases BH:AB l rc.ed with|none=>exact h1|some x=>
          rcases Q4 l x BH with h|⟨z,hz⟩;·exact absurd h hne
          ·rw[h1]at hz;cases hz
    have Hw:BS P cx (rc.app (replay L R s0)) (a.put o.dst u) E':=by
      refine⟨?_,λl hl=>?_,?_,ZGd hr.drawn IH,?_,?_,λt=>?_⟩
      · have :(rc.app (replay L R s0)).objs=rc.ed++(replay L R s0).objs:=by generalize replay L R s0=q;cases q;rfl
        rw[this];exact g
      · have hl:s0.nx≤l:=by
          have :(rc.app (replay L R s0)).nx=s0.nx:=by rw[←e2];generalize replay L R s0=q;cases q;rfl
          rw[this]at hl;exact hl
        exact KB l (hr.fresh l (by rw[e2];exact hl)) (by omega)
      · have :(rc.app (replay L R s0)).mv=(replay L R s0).mv:=by generalize replay L R s0=q;cases q;rfl
        rw[this];have e:(rc.app (replay L R s0)).objs=rc.ed++(replay L R s0).objs:=by generalize replay L R s0=q;cases q;rfl
        rw[e];simpa using hr.step.trans st
      · have :(rc.app (replay L R s0)).nt=(replay L R s0).nt:=by generalize replay L R s0=q;cases q;rfl
        rw[this,←hr.size];cases o.dst<;>simp[Act.put]
      · have :(rc.app (replay L R s0)).df=(replay L R s0).df:=by generalize replay L R s0=q;cases q;rfl
        have e:(a.put o.dst u).defers=a.defers:=by cases o.dst<;>rfl
        rw[this,e];exact hr.df.ext st.ext
      ·rw[V9,hdst];cases Iv:o.dst with|none=>exact(hr.rep t).mono st.ext|some d=>
          rw[rE (ZBD d Iv)];by_cases e:d=t;·subst e;rw[ZGE rfl,ZGE rfl];exact hu
          ·rw[ZGA λh=>e (by cases h;rfl),ZGA e];exact(hr.rep t).mono st.ext
    refine hK _ E' ?_ λq hq mL=>?_
    · refine BG.congr Hw (λt=>?_) (λl=>?_) ?_ ?_ ?_ λl hl=>?_;·
        rw[V9,SG,SG];by_cases e:rc.dst=some t
        · rw[ZGE e];have hq:∀q∈R,q.dst=some t→q=rc:=λq hq HJ=>Y7 q hq (by have h1:=(NI hd q hq t HJ).1;have h2:=(NI hd rc A4 t e).1;exact(ZH7 (h1.symm.trans h2)).trans Ek);have Xg:GK (Gf L i) t B=none:=Rf λq RF HJ=>by have :=hq q (by rw[Ei];simp[RF]) HJ;have h1:=hB q RF;rw[this,Ek]at h1;omega
          have :GK (Gf L i) t R=some rc.v:=by rw[Ei,oL];simp only[GK,Xg];rw[ZGE ⟨by simp[Gf,Ek],e⟩]
          rw[this]
        ·rw[ZGA e];rw[ZQ (p:=Gf L i) (q:=L)];intro q hq HJ;have :q.i≠i:=λh=>e (by rw[←Y7 q hq h];exact HJ);simp[Gf,this]
      · rw[dP,SF,SF];have other:AB l rc.ed=none→FZ (Gf L i) l R=FZ L l R:=λhn=>ZP λq hq x BH=>by
          have :q.i≠i:=λh=>by rw[Y7 q hq h,hn]at BH;cases BH
          simp[Gf,this]
        cases BH:AB l rc.ed with|none=>rw[other BH]|some y=>
          simp only;have Xg:FZ (Gf L i) l B=none:=oK λq RF x I0=>by
            have hqR:q∈R:=by rw[Ei];simp[RF]
            have h1:=hB q RF;rcases mG q hqR l x I0 (IL l y BH)with h|h
            · have h2:L q.i=false:=by rw[←h];simp;omega
              simp only[Gf,h2,ZHh,ZHm];omega
            ·rw[h,Ek]at h1;omega
          have :FZ (Gf L i) l R=some y:=by rw[Ei,oJ];simp only[FZ,Xg,BH];rw[ZGE (by simp[Gf,Ek])]
          rw[this]
      ·rw[f1,←e1];generalize replay L R s0=q;cases q;rfl
      ·rw[f3,←e3];generalize replay L R s0=q;cases q;rfl
      ·rw[f4,←e4];generalize replay L R s0=q;cases q;rfl
      ·rw[f2]at hl;exact KB l (hr.fresh l (by rw[e2];exact hl)) (by omega)
    ·simp only[Gf,ZH0,ZHm]at mL;exact KB _ (hf q hq mL.1) (by omega)
  obtain⟨dst,op,ty,po,af,guard⟩:=o;revert B9 Al hval;generalize NW:replay (λk=>decide (k<i)) R s0=cur;obtain⟨ntc,K7,N6,nxc,dfc,wrc,dic,mvc⟩:=cur;intro Al hval B9;simp only[Pn]at B9;have Kp:∀ks:List Nat,(∀l∈ks,l∈rc.ks)→DL (OG N6 ks) (replay L R s0).objs:=λks IL l x h=>by obtain⟨h1,h2⟩:=aW h;rw[←Al l (IL l h1)];exact h2
  have Yl:∀tm:List (Nat×V),tm=H8 T ds i s0.tmps K7 op.operands.toList→∀x,AC P E (Au tm x) (a.eval x):=λtm e x=>by cases x with
    |tmp t=>
      show AC P E (Ag t tm) _;rw[e];rcases bZ (T:=T) (ds:=ds) (i:=i) (base:=s0.tmps) (cur:=K7) (t:=t) (l:=op.operands.toList)with h|h;·rw[h];exact hval t
      ·rw[h];exact .any _|const v=>exact Vm v|global g=>exact .any _|func f=>exact .fn rfl rfl (λj hj=>by simp at hj) λj hj=>by simp at hj
  have Ci:E.loc (n0+i)=none:=by have :=hf rc A4 (by rw[Ek];exact hL);rwa[Ek]at this
  unfold wpOpIn;rw[hi];simp only;split at B9
  · rw[ZGE (by simp[Region.wanted])];split at B9
    · rename_i ob' v es he;have Nq:ob'=ob:=by cases B9;rfl
      have Gu:=(ZKT (ZH7 B9)).2;subst Nq;have IL:∀l∈Oc op N6 (I4 (B3 (H8 T ds i s0.tmps K7 op.operands.toList) op.operands.toList)),l∈rc.ks:=λl hl=>by rw[←Gu];simp[hl]
      have Le:rc.v=v:=by rw[←Gu]
      have Bn:rc.ed=es:=by rw[←Gu]
      obtain⟨X6,YV⟩:=gZ (r:=r) (a:=a) (o:=⟨dst,op,ty,po,af,none⟩) hτ hκ he (Kp _ IL) ho hr.good Ci λx _=>Yl _ rfl x;refine X6 _ Q λE' u k1 k2 kd k3=>?_;refine behind E' u (by rw[Bn];exact k1) (by rw[Bn];exact k2) kd (by rw[Le];exact k3) (λl x h=>?_) λl x h=>?_
      · rw[Bn]at h;rcases YV l x h with h|⟨y,hy⟩;·exact .inl h
        ·exact .inr ⟨y,Kp _ IL l y hy⟩
      ·rw[Bn]at h;rw[←Gu];exact ZHY _ (Re h)
    ·cases B9
  · rename_i j want;split at B9;·cases B9
    · rename_i gd Iw;split at B9;·cases B9
      · rename_i g hg;have hw:=uJ (o:=⟨dst,op,ty,po,af,some (j,want)⟩) rfl Iw hg (hval gd);rw[hw];have kZ:Oe τ κ dec g i dst op (H8 T ds i s0.tmps K7 op.operands.toList) (OG N6 (Oc op N6 (I4 (B3 (H8 T ds i s0.tmps K7 op.operands.toList) op.operands.toList)))) (Oc op N6 (I4 (B3 (H8 T ds i s0.tmps K7 op.operands.toList) op.operands.toList))) (n0+i)=some (ob,rc)→if g=true then Oper.wpIn (fz r) 0 P ⟨dst,op,ty,po,af,some (j,want)⟩ a E.w K Q else(∀(f:FuncId),Oper.about P E.w a.eval ⟨dst,op,ty,po,af,some (j,want)⟩=some f→(fz r).fn f)∧K (a.put dst undef) E.w:=λB9=>by
          unfold Oe at B9;split at B9;·cases B9
          · split at B9
            · rw[ZGE rfl];split at B9
              · rename_i ob' v es he;have Nq:O4 true (Lx op (H8 T ds i s0.tmps K7 op.operands.toList)) ob'=ob:=by cases B9;rfl
                have Gu:=(ZKT (ZH7 B9)).2;have IL:∀l∈Oc op N6 (I4 (B3 (H8 T ds i s0.tmps K7 op.operands.toList) op.operands.toList)),l∈rc.ks:=λl hl=>by rw[←Gu];simp[hl]
                have Le:rc.v=v:=by rw[←Gu]
                have Bn:rc.ed=es:=by rw[←Gu]
                have D5:=(Qi (by rw[Nq];exact ho) rfl).1;have kc:=(Qi (by rw[Nq];exact ho) rfl).2;obtain⟨X6,YV⟩:=gZ (r:=r) (a:=a) (o:=⟨dst,op,ty,po,af,some (j,want)⟩) hτ hκ he (Kp _ IL) D5 hr.good Ci λx hx=>WK hx (Yl _ rfl x) kc;refine X6 _ Q λE' u k1 k2 kd k3=>?_;refine behind E' u (by rw[Bn];exact k1) (by rw[Bn];exact k2) kd (by rw[Le];exact k3) (λl x h=>?_) λl x h=>?_
                · rw[Bn]at h;rcases YV l x h with h|⟨y,hy⟩;·exact .inl h
                  ·exact .inr ⟨y,Kp _ IL l y hy⟩
                ·rw[Bn]at h;rw[←Gu];exact ZHY _ (Re h)
              ·cases B9
            · rw[ZGA (by simp)];have Gu:=(ZKT (ZH7 B9)).2;have Le:rc.v=.when false (.d .bool false):=by rw[←Gu]
              have Bn:rc.ed=[]:=by rw[←Gu]
              exact⟨λ_ _=>trivial,behind E undef (by rw[Bn];exact hr.good) (by rw[Bn];exact .refl _ _ _) (ZGR _) (by rw[Le];exact .when (λe=>by cases e) λ_=>rfl) (λl x h=>by rw[Bn]at h;cases h) λl x h=>by rw[Bn]at h;cases h⟩
        split at B9
        · rename_i out he;generalize NY:LJ op out=out' at B9;obtain⟨ob',v,ed⟩:=out';simp only at B9;split at B9
          · rename_i es BH;have Nq:O4 g (Lx op (H8 T ds i s0.tmps K7 op.operands.toList)) ob'=ob:=by cases B9;rfl
            have Gu:=(ZKT (ZH7 B9)).2;have IL:∀l∈Oc op N6 (I4 (B3 (H8 T ds i s0.tmps K7 op.operands.toList) op.operands.toList)),l∈rc.ks:=λl hl=>by rw[←Gu];simp[hl]
            have Le:rc.v=.when g v:=by rw[←Gu]
            have Bn:rc.ed=es:=by rw[←Gu]
            have hcase:ed=none∧es=[]∨ed=some (n0+i,.dead,false)∧es=[(n0+i,.dead)]:=by
              unfold gW at BH;split at BH;·cases BH;exact .inl ⟨rfl,rfl⟩
              · split at BH;·rename_i l hb;cases BH;rw[ZGJ hb];exact .inr ⟨rfl,rfl⟩
                ·cases BH
              ·cases BH
            have Q4:∀l x,AB l rc.ed=some x→l=n0+i∨∃y,AB l (replay L R s0).objs=some y:=λl x h=>by
              rw[Bn]at h;rcases hcase with⟨_,rfl⟩|⟨_,rfl⟩;·cases h
              · rw[BA]at h;split at h;·rename_i e;exact .inl e.symm
                ·cases h
            have YX:∀l x,AB l rc.ed=some x→l∈rc.ks:=λl x h=>by rw[Bn]at h;rw[←Gu];exact ZHY _ (Re h)
            cases g with|true=>
              rw[ZGE rfl];have D5:BM (LJ op out).ob:=by rw[NY];exact(Qi (by rw[Nq];exact ho) rfl).1
              have kc:=(Qi (by rw[Nq];exact ho) rfl).2;have hd0:=TQ (r:=r) (a:=a) (o:=⟨dst,op,ty,po,af,some (j,want)⟩) hτ hκ he (Kp _ IL) (by rw[←gF op out];exact D5) hr.good Ci λx hx=>WK hx (Yl _ rfl x) kc;have hd1:=gE op hd0;rw[NY]at hd1;refine hd1 _ Q λE' u k1 k2 kd k3=>?_;refine behind E' u ?_ ?_ kd (by rw[Le];exact .when (λ_=>k3) λe=>by cases e) Q4 YX
              · rw[Bn];rcases hcase with⟨rfl,rfl⟩|⟨rfl,rfl⟩;·exact k1
                ·exact k1
              · rw[Bn];rcases hcase with⟨rfl,rfl⟩|⟨rfl,rfl⟩;·exact k2
                ·exact k2|false=>
              rw[ZGA (by simp)];refine⟨λ_ _=>trivial,?_⟩;rcases hcase with⟨rfl,rfl⟩|⟨rfl,rfl⟩;·exact behind E undef (by rw[Bn];exact hr.good) (by rw[Bn];exact .refl _ _ _) (ZGR _) (by rw[Le];exact .when (λe=>by cases e) λ_=>rfl) Q4 YX
              ·have ha:=hr.good.adopt (n:=n0+i) (K:=⟨0,none,0,0,0⟩) (o:=.dead) Ci trivial λh=>h.elim;exact behind (E.setL E.w (n0+i) ⟨0,none,0,0,0⟩) undef (by rw[Bn];exact ha.1) (by rw[Bn];exact ha.2 E _ [] (.refl _ _ _) λh=>h.elim) (ZGR _) (by rw[Le];exact .when (λe=>by cases e) λ_=>rfl) Q4 YX
          ·exact kZ B9
        ·exact kZ B9
end
section
variable {P : Program} {τ : Ap} {κ : A2} {φ : Nat → Option FX}
def Sw:Nat→List Nat→Bool|0,_=>true|n+1,l=>match B7 n l with|true=>Sw n l|false=>false
theorem eE{l:List Nat}:∀{n:Nat},Sw n l=true→∀j,j<n→j∈l
 |0,_,j,h=>absurd h (by omega)|n+1,h,j,hj=>by
  simp only[Sw]at h;split at h
  ·rename_i h1;by_cases e:j=n;·subst e;exact F3.1 h1
   ·exact eE h j (by omega)
  ·cases h
def Sn(T:List (Nat×List Nat))(p:Nat):Nat→Nat→Bool|_,0=>true|i,c+1=>match Sw p (Ch i T)with|true=>Sn T p (i+1) c|false=>false
theorem dI{T:List (Nat×List Nat)}{p:Nat}:∀{c i:Nat},Sn T p i c=true→∀j,i≤j→j<i+c→∀k,k<p→k∈Ch j T
 |0,i,_,j,h1,h2,_,_=>absurd h2 (by omega)|c+1,i,h,j,h1,h2,k,hk=>by
  simp only[Sn]at h;split at h
  ·rename_i hb;by_cases e:j=i;·subst e;exact eE hb k hk
   ·exact dI h j (by omega) (by omega) k hk
  ·cases h
def QQ:Nat→List Oper→List (Nat×Nat)|_,[]=>[]|i,⟨some d,_,_,_,_,_⟩::r=>(d,i)::QQ (i+1) r|i,_::r=>QQ (i+1) r
def Py{α:Type}:Nat→List α→List α×List α|0,l=>([],l)|n+1,[]=>([],[])|n+1,x::l=>match Py n l with|(a,b)=>(x::a,b)
def Qh(τ:Ap)(κ:A2)(dec:Bool)(T:List (Nat×List Nat))(ops:List Oper)(n p:Nat)(seg:List Oper)(s:St)(k:St→Prop):Prop:=match s with|⟨nt,tmps,objs,nx,df,wr,di,mv⟩=>match O3 τ κ dec T (QQ p seg) ops nx tmps p seg ⟨nt,tmps,objs,nx+n,df,wr,di,mv⟩with|none=>False|some (obs,R,s')=>match Rq T R with|false=>False|true=>match NH nt (QQ p seg) R with|false=>False|true=>V4 obs (k s')
def jW(ops:List Oper):List Oper→Option Nat|[]=>none|⟨_,_,_,_,_,some (j,_)⟩::_=>Qe ops j|_::r=>jW ops r
def VM(t:Nat)(b:Bool)(s:St):St:=match s with|⟨nt,tmps,objs,nx,df,wr,di,mv⟩=>⟨nt,(t,.d .bool b)::tmps,objs,nx,df,t::wr,di,mv⟩
def Xd(τ:Ap)(κ:A2)(T:List (Nat×List Nat))(ops:List Oper)(n p:Nat)(seg:List Oper)(s:St)(k:St→Prop):Prop:=match s with|⟨nt,tmps,objs,nx,df,wr,di,mv⟩=>match O3 τ κ false T (QQ p seg) ops nx tmps p seg ⟨nt,tmps,objs,nx+n,df,wr,di,mv⟩with|some _=>Qh τ κ false T ops n p seg ⟨nt,tmps,objs,nx,df,wr,di,mv⟩ k|none=>match jW ops seg with|none=>False|some t=>match Ag t tmps with|.d .bool b=>cond b (Qh τ κ true T ops n p seg (VM t true ⟨nt,tmps,objs,nx,df,wr,di,mv⟩) k) (Qh τ κ true T ops n p seg (VM t false ⟨nt,tmps,objs,nx,df,wr,di,mv⟩) k)|_=>False
theorem ZD0{cx:Cx}{s:St}{t:Nat}{b:Bool}(hv:Ag t s.tmps=.d .bool b){a:Act}{w:World}(r:BG P cx s a w):Aa s (VM t b s)∧BG P cx (VM t b s) a w:=by
 obtain⟨nt,tmps,objs,nx,df,wr,di,mv⟩:=s;obtain⟨E,rfl,r1⟩:=r;have hl:∀u,Ag u ((t,V.d .bool b)::tmps)=Ag u tmps:=λu=>by
  rw[DG];split;·rename_i e;rw[←e];exact hv.symm
  ·rfl
 refine⟨⟨rfl,ZGR _,λ_ h=>ZGK _ h,λ_ h=>h,λ_ h=>h,λu hu=>hl u,λ_ _=>rfl,λ_=>rfl⟩,E,rfl,r1.good,r1.fresh,r1.step,r1.drawn,r1.size,r1.df,λu=>?_⟩;show AC P E (Ag u ((t,V.d .bool b)::tmps)) _;rw[hl];exact r1.rep u
theorem ZAw{cx:Cx}{T:List (Nat×List Nat)}{ops:List Oper}{n p:Nat}{seg:List Oper}{s:St}{k:St→Prop}(h:Xd τ κ T ops n p seg s k){a:Act}{w:World}(r:BG P cx s a w):∃dec s1,Aa s s1∧BG P cx s1 a w∧Qh τ κ dec T ops n p seg s1 k:=by
 obtain⟨nt,tmps,objs,nx,df,wr,di,mv⟩:=s;unfold Xd at h;simp only at h;split at h;·exact⟨false,_,.refl _,r,h⟩
 ·split at h;·exact h.elim
  ·rename_i t _;split at h;·rename_i b hv;obtain⟨h1,h2⟩:=ZD0 (P:=P) (cx:=cx) (s:=⟨nt,tmps,objs,nx,df,wr,di,mv⟩) hv r;cases b with|true=>exact⟨true,_,h1,h2,h⟩|false=>exact⟨true,_,h1,h2,h⟩
   ·exact h.elim
def Og(τ:Ap)(κ:A2)(X:XT)(T:List (Nat×List Nat))(ops:List Oper)(n:Nat):List Nat→Nat→List Oper→St→(St→Prop)→Prop
 |[],p,rest,s,k=>match rest with|[]=>k s|_=>False
 |q::qs,p,rest,s,k=>match Sn T q q (n-q)with|false=>False|true=>match Nat.beq q (p+1)with
  |true=>match rest with|[]=>False|o::r=>GP τ κ X ops [o] [] s λs'=>Og τ κ X T ops n qs q r s' k
  |false=>match Py (q-p) rest with|(seg,r)=>match Nat.beq (p+seg.length) q with|false=>False|true=>Xd τ κ T ops n p seg s λs'=>Og τ κ X T ops n qs q r s' k
theorem bP{α:Type}:∀{n:Nat}{l:List α},(Py n l).1=l.take n∧(Py n l).2=l.drop n|0,l=>⟨rfl,rfl⟩|n+1,[]=>⟨rfl,rfl⟩|n+1,x::l=>by have :=bP (n:=n) (l:=l);simp only[Py,ZIw,ZIJ];exact⟨by rw[this.1],this.2⟩
theorem Aa.app(r:Rc)(s:St):Aa s (r.app s):=by
 obtain⟨i,dst,v,ed,ks⟩:=r;obtain⟨nt,tmps,objs,nx,df,wr,di,mv⟩:=s;refine⟨rfl,ZGR _,λt ht=>?_,λl hl=>?_,λ_ h=>h,λt ht=>?_,λl hl=>?_,λ_=>rfl⟩;·cases dst with|none=>exact ht|some d=>exact ZGK _ ht
 ·exact ZHU _ hl
 ·cases dst with|none=>rfl|some d=>have ht:t∉d::wr:=ht;simp only[ZGe,ZGx]at ht;show Ag t ((d,v)::tmps)=_;rw[DG,ZGA (ZG6 ht.1)]
 ·have hl:l∉MY ed++di:=hl;simp only[ZGa,ZGx]at hl;show AB l (ed++objs)=_;rw[Oz];cases h:AB l ed with|none=>rfl|some o=>exact absurd (Re h) hl.1
theorem Aa.replay(p:Nat→Bool):∀(R:List Rc)(s:St),Aa s (replay p R s)
 |[],s=>.refl s|r::rs,s=>by
  simp only[YtgpdnmfpgkkgcaaGreatDoor.replay];split;·exact(Aa.app r s).trans (Aa.replay p rs _)
  ·exact Aa.replay p rs s
def Bd(n p:Nat)(listed:Array Bool):Prop:=listed.size=n∧∀j,j<n→listed.getD j false=decide (j<p)
def TC(n:Nat)(listed:Array Bool):Nat:=((List.range n).filter λj=>!listed.getD j false).length
theorem ZAg{p p':Nat→Bool}{i:Nat}(hi:p i=true)(hi':p' i=false)(hp:∀j,p' j=true→p j=true):∀{l:List Nat},i∈l→(l.filter p').length<(l.filter p).length:=by
 have hle:∀l:List Nat,(l.filter p').length≤(l.filter p).length:=by intro l;induction l with|nil=>simp|cons x l ih=>
  simp only[List.filter_cons];split;·rename_i h;rw[ZGE (hp x h)];simpa using ih
  ·split;·simp;omega
   ·exact ih
 intro l h;induction l with|nil=>cases h|cons x l ih=>
  simp only[List.filter_cons];rcases List.mem_cons.1 h with rfl|h;·rw[ZGE hi,ZGA (by rw[hi'];simp)];have :=hle l;simp;omega
  ·have :=ih h;split;·rename_i h';rw[ZGE (hp x h')];simpa using this
   ·split;·simp;omega
    ·exact this
theorem OH{listed:Array Bool}{i j:Nat}(hi:i<listed.size):(listed.setIfInBounds i true).getD j false=(listed.getD j false||decide (j=i)):=by
 by_cases e:j=i;·subst e;simp[ZGV,hi]
 ·rw[getD_set_ne false (ZG6 e)];simp[e]
theorem eW{n i:Nat}{listed:Array Bool}(hs:listed.size=n)(hi:i<n)(hl:listed.getD i false=false):TC n (listed.setIfInBounds i true)<TC n listed:=by refine ZAg (i:=i) (by simp only[hl];rfl) (by rw[OH (by omega)];simp) (λj hj=>?_) (List.mem_range.2 hi);rw[OH (by omega)]at hj;cases h:listed.getD j false with|false=>rfl|true=>rw[h]at hj;cases hj
def P6(T:List (Nat×List Nat))(n:Nat)(listed:Array Bool):Prop:=∀i,i<n→listed.getD i false=true→∀j∈Ch i T,listed.getD j false=true
theorem aJ{ops:Array Oper}{T:List (Nat×List Nat)}(hT:PT ops T){listed:Array Bool}(hd:P6 T ops.size listed){i:Nat}(hi:i∈Region.ready .any ops listed):i<ops.size∧listed.getD i true=false∧∀j∈Ch i T,listed.getD j false=true:=by
 obtain⟨h1,o,h2,h3⟩:=mem_ready.1 hi;have Ab:i<ops.size:=(Array.getElem?_eq_some_iff.1 h2).1;refine⟨Ab,h1,λj hj=>?_⟩;obtain⟨e,he,hb,Yn⟩:=hT.back i o j h2 hj;have hon:=h3 e he hb;rcases Yn with h|h;·rw[←h];exact hon
 ·exact hd e.on (Nat.lt_trans (hT.lt i e.on Ab (hT.edge i o e h2 he hb)) Ab) hon j h
theorem Tf{listed:Array Bool}{n j:Nat}(hs:listed.size=n)(hj:j<n):listed.getD j true=listed.getD j false:=by rw[ZGV,ZGV,ZHF (by omega)];rfl
theorem rP{ops:Array Oper}{T:List (Nat×List Nat)}(hT:PT ops T){listed:Array Bool}(hs:listed.size=ops.size):∀i,i<ops.size→listed.getD i false=false→Region.ready .any ops listed≠[]:=by intro i;induction i using Nat.strongRecOn with|_ i ih=>intro hi hl hn;have :i∈Region.ready .any ops listed:=mem_ready.2 ⟨by rw[Tf hs hi];exact hl,ops[i],ZHF hi,λe he hb=>by have Ab:=hT.lt i e.on hi (hT.edge i ops[i] e (ZHF hi) he hb);cases h:listed.getD e.on false with|true=>rfl|false=>exact absurd hn (ih e.on Ab (by omega) h)⟩;rw[hn]at this;cases this
theorem eD{ops:Array Oper}{T:List (Nat×List Nat)}(hT:PT ops T){p:Nat}{listed:Array Bool}(h:Bd ops.size p listed):P6 T ops.size listed:=λi hi hl j hj=>by
 have h1:=h.2 i hi;rw[hl]at h1;have h2:=hT.lt i j hi hj;have h3:i<p:=by simpa using h1.symm
 rw[h.2 j (by omega)];simp;omega
theorem zO{ops:Array Oper}{T:List (Nat×List Nat)}(hT:PT ops T){listed:Array Bool}(hs:listed.size=ops.size)(hd:P6 T ops.size listed){i:Nat}(hi:i∈Region.ready .any ops listed):P6 T ops.size (listed.setIfInBounds i true):=λj hj hl k hk=>by
 obtain⟨h1,h2,h3⟩:=aJ hT hd hi;rw[OH (by omega)]at hl⊢;rcases Bool.or_eq_true_iff.1 hl with h|h;·rw[hd j hj h k hk];rfl
 ·have :j=i:=by simpa using h
  subst this;rw[h3 k hk];rfl
end
section
variable {P : Program} {τ : Ap} {κ : A2} {φ : Nat → Option FX}
theorem ZE8{F:Fence}{n:Nat}{o:Oper}{a:Act}{w:World}{K:Act→World→Prop}{Q Q':Ee}(h:∀c a w,Q' (.panic c) a w→Q (.panic c) a w)(h2:LetsOut Q'→LetsOut Q)(hh:o.wpIn F n P a w K Q'):o.wpIn F n P a w K Q:=by unfold Oper.wpIn at*;refine⟨hh.1,?_⟩;have hh:=hh.2;generalize(o.semAt F.round a.eval).run P w=r at*;cases r with
 |ok x w'=>cases x<;>simp only[Oper.uponIn]at hh⊢<;>first|exact hh|exact⟨hh.1,CallsIn.mono hh.2 λe w'' he=>by cases e<;>first|exact h _ _ _ he|exact h2 he|exact he⟩|exact⟨hh.1,RowsIn.mono hh.2 λ_ _ he=>he⟩|exact⟨hh.1,RoundIn.mono hh.2 λe w'' he=>by cases e<;>first|exact h _ _ _ he|exact h2 he|exact he⟩
 |halt x w'=>cases x<;>simp only[Oper.uponIn]at hh⊢<;>first|exact hh|exact h _ _ _ hh
theorem ZFA{F:Fence}{n:Nat}{ops:Array Oper}{i:Nat}{a:Act}{w:World}{K:Act→World→Prop}{Q Q':Ee}(h:∀c a w,Q' (.panic c) a w→Q (.panic c) a w)(h2:LetsOut Q'→LetsOut Q)(hh:wpOpIn F n P ops Q' i K a w):wpOpIn F n P ops Q i K a w:=by
 unfold wpOpIn at*;split;·rename_i ho;rw[ho]at hh;exact hh
 ·rename_i o ho;rw[ho]at hh;simp only at hh;split;·rename_i hw;rw[ZGE hw]at hh;exact ZE8 h h2 hh
  ·rename_i hw;rw[ZGA hw]at hh;exact hh
theorem TM(hτ:BQ P τ)(hκ:BK P κ){r:Option Nat}{cx:Cx}{X:XT}(hX:P9 P r cx X){ops:Array Oper}{T:List (Nat×List Nat)}(hT:PT ops T){Q:Ee}:∀(qs:List Nat)(p:Nat)(rest:List Oper)(s:St)(k:St→Prop),rest=ops.toList.drop p→p≤ops.size→(∀i,p≤i→i<ops.size→∀j,j<p→j∈Ch i T)→Og τ κ X T ops.toList ops.size qs p rest s k→∀(fuel:Nat)(listed:Array Bool)(a:Act)(w:World),Bd ops.size p listed→TC ops.size listed≤fuel→BG P cx s a w→(∀s' a' w',Aa s s'→k s'→BG P cx s' a' w'→Q .normal a' w')→wpAnyIn (fz r) 0 P .any ops Q fuel listed a w
 |[],p,rest,s,k,Hx,Yr,D3,h,fuel,listed,a,w,hB,hc,hr,hk=>by
  simp only[Og]at h;split at h
  ·have hp:p=ops.size:=by
    have :(ops.toList.drop p).length=0:=by rw[←Hx];rfl
    simp at this;omega
   have mN:Region.ready .any ops listed=[]:=by refine List.eq_nil_iff_forall_not_mem.2 λi hi=>?_;obtain⟨h1,o,h2,_⟩:=mem_ready.1 hi;have Ab:i<ops.size:=(Array.getElem?_eq_some_iff.1 h2).1;rw[Tf hB.1 Ab,hB.2 i Ab,hp]at h1;simp at h1;omega
   have hq:=hk s a w (.refl s) h hr;cases fuel with|zero=>exact⟨mN,hq⟩|succ f=>exact⟨λ_=>hq,λi hi=>by rw[mN]at hi;cases hi⟩
  ·exact h.elim|q::qs,p,rest,s,k,Hx,Yr,D3,h,fuel,listed,a,w,hB,hc,hr,hk=>by
  simp only[Og]at h;split at h;·exact h.elim
  ·rename_i hall;have Qv:q≤ops.size→∀i,q≤i→i<ops.size→∀j,j<q→j∈Ch i T:=λhq i h1 h2 j hj=>dI hall i h1 (by omega) j hj;split at h;·
    rename_i RH;have RH:=ZGJ RH;split at h;·exact h.elim
    ·rename_i o rst;have Cp:ops[p]?=some o:=by
      have :ops.toList[p]?=some o:=by have :=ZHy (xs:=ops.toList) (i:=p) (j:=0);rw[←Hx]at this;simpa using this.symm
      simpa using this
     have Ab:p<ops.size:=(Array.getElem?_eq_some_iff.1 Cp).1;have Yv:rst=ops.toList.drop q:=by have :=ZGr (List.drop 1) Hx;rw[RH];simpa[ZKZ]using this
     have Y6:listed.getD p false=false:=by rw[hB.2 p Ab];simp
     have hB':Bd ops.size q (listed.setIfInBounds p true):=⟨by simpa using hB.1,λj hj=>by
      rw[OH (by rw[hB.1];exact Ab),hB.2 j hj,RH];by_cases e:j=p;·subst e;simp
      ·have :(j<p+1)=(j<p):=by apply propext;omega
       simp[e,this]⟩;have hcs:=eW hB.1 Ab Y6;cases fuel with|zero=>omega|succ f=>
      refine⟨λhn=>absurd hn (rP hT hB.1 p Ab Y6),λi hi=>?_⟩;obtain⟨h1,h2,h3⟩:=aJ hT (eD hT hB) hi;have PI:i=p:=by
       rw[Tf hB.1 h1,hB.2 i h1]at h2;have h2:p≤i:=by simpa using h2
       by_cases e:i=p;·exact e
       ·have :=h3 p (Qv (by omega) i (by omega) h1 p (by omega));rw[Y6]at this;cases this
      subst PI;have :=Zs (Q:=λe a w=>match e with|.normal=>wpAnyIn (fz r) 0 P .any ops Q f (listed.setIfInBounds i true) a w|e=>Q e a w) hτ hκ hX (ops:=ops) (l:=[o]) (is:=[i]) (by simp[Cp]) h hr λs' a' w' hi' hq' hr'=>TM hτ hκ hX hT qs q rst s' k Yv (by omega) (Qv (by omega)) hq' f _ a' w' hB' (by omega) hr' λs'' a'' w'' hj hq'' hr''=>hk s'' a'' w'' (hi'.trans hj) hq'' hr'';rw[wpOpsIn_cons]at this;exact ZFA (λc a w h=>h) (λ⟨a,w,h⟩=>⟨a,w,h⟩) this
   ·generalize FD:Py (q-p) rest=sr at h;obtain⟨seg,rst⟩:=sr;simp only at h;have mT:seg=rest.take (q-p):=by rw[←(bP (n:=q-p) (l:=rest)).1,FD]
    have Yv:rst=rest.drop (q-p):=by rw[←(bP (n:=q-p) (l:=rest)).2,FD]
    split at h;·exact h.elim
    ·rename_i hlen;have hlen:=ZGJ hlen;obtain⟨dec,s1,hi1,hr,h⟩:=ZAw h hr;replace hk:∀s' a' w',Aa s1 s'→k s'→BG P cx s' a' w'→Q .normal a' w':=λs' a' w' hi=>hk s' a' w' (hi1.trans hi);obtain⟨nt,tmps,objs,nx,df,wr,di,mv⟩:=s1;unfold Qh at h;simp only at h;split at h;·exact h.elim
     ·rename_i obs R s' hg;split at h;·exact h.elim
      ·rename_i ZBg;split at h;·exact h.elim
       ·rename_i X9;obtain⟨ZBd,KC⟩:=dJ h;obtain⟨k0,k1,k2,k3⟩:=jV (R0:=[]) (s0:=⟨nt,tmps,objs,nx+ops.size,df,wr,di,mv⟩) hg (λ_ h=>by simp at h) rfl;simp only[ZG8]at k2 k3;have RI:q≤ops.size:=by
         have :seg.length≤rest.length:=by rw[mT,ZGP];exact Nat.min_le_right _ _
         have h2:rest.length=ops.size-p:=by rw[Hx,ZG1,ZGn]
         omega
        have ZBr:∀j o,seg[j]?=some o→ops[p+j]?=some o:=λj o hj=>by
         rw[mT,ZGg]at hj;split at hj;·rw[Hx,ZHy]at hj;simpa using hj
         ·cases hj
        have mQ:rst=ops.toList.drop q:=by rw[Yv,Hx,ZKZ];congr 1;omega
        have Tl:∀r∈R,r.i<ops.size:=λr hr=>by have :=k1 r hr;omega
        have hinv0:Aa ⟨nt,tmps,objs,nx,df,wr,di,mv⟩ ⟨nt,tmps,objs,nx+ops.size,df,wr,di,mv⟩:=⟨rfl,by simp,λ_ h=>h,λ_ h=>h,λ_ h=>h,λ_ _=>rfl,λ_ _=>rfl,λ_=>rfl⟩;have key:∀(fuel:Nat)(listed:Array Bool)(a:Act)(E:AF),listed.size=ops.size→P6 T ops.size listed→(∀j,j<p→listed.getD j false=true)→(∀j,j<ops.size→q≤j→listed.getD j false=false)→TC ops.size listed≤fuel→BS P cx (replay (λj=>listed.getD j false) R ⟨nt,tmps,objs,nx+ops.size,df,wr,di,mv⟩) a E→(∀r∈R,listed.getD r.i false=false→E.loc (nx+r.i)=none)→wpAnyIn (fz r) 0 P .any ops Q fuel listed a E.w:=by intro fuel;induction fuel with
         |zero=>
          intro listed a E hs hd EK J0 hc hr hf;have Jw:∀j,j<ops.size→listed.getD j false=true:=λj hj=>by cases hl:listed.getD j false with|true=>rfl|false=>have hm:j∈(List.range ops.size).filter λj=>!listed.getD j false:=List.mem_filter.2 ⟨List.mem_range.2 hj,by simp only[hl];rfl⟩;rw[ZGY (Nat.le_zero.1 hc)]at hm;cases hm
          have Xh:Bd ops.size q listed:=⟨hs,λj hj=>by
           rw[Jw j hj];by_cases e:j<q;·simp[e]
           ·have :=J0 j hj (by omega);rw[Jw j hj]at this;cases this⟩;refine TM hτ hκ hX hT qs q rst s' k mQ RI (Qv RI) KC 0 listed a E.w Xh hc ?_ λs'' a'' w'' hj hq'' hr''=>hk s'' a'' w'' ((hinv0.trans (by rw[k2];exact Aa.replay _ _ _)).trans hj) hq'' hr'';refine⟨E,rfl,?_⟩;rw[k2,SE (p:=λ_=>true) (q:=λj=>listed.getD j false)];·exact hr
          ·intro r hr;exact(Jw r.i (Tl r hr)).symm|succ f ih=>
          intro listed a E hs hd EK J0 hc hr hf;by_cases YK:∀j,p≤j→j<q→listed.getD j false=true
          ·have Xh:Bd ops.size q listed:=⟨hs,λj hj=>by
            by_cases e:j<q
            ·by_cases e2:j<p;·rw[EK j e2];simp[e]
             ·rw[YK j (by omega) e];simp[e]
            ·rw[J0 j hj (by omega)];simp[e]⟩;refine TM hτ hκ hX hT qs q rst s' k mQ RI (Qv RI) KC (f+1) listed a E.w Xh hc ?_ λs'' a'' w'' hj hq'' hr''=>hk s'' a'' w'' ((hinv0.trans (by rw[k2];exact Aa.replay _ _ _)).trans hj) hq'' hr'';refine⟨E,rfl,?_⟩;rw[k2,SE (p:=λ_=>true) (q:=λj=>listed.getD j false)];·exact hr
           ·intro r hr;have :=k1 r hr;exact(YK r.i this.1 (by omega)).symm
          ·have :∃j,p≤j∧j<q∧listed.getD j false=false:=by refine ZHW λhn=>YK λj h1 h2=>?_;cases hl:listed.getD j false with|true=>rfl|false=>exact absurd ⟨j,h1,h2,hl⟩ hn
           obtain⟨j,Ix,hj2,hj3⟩:=this;refine⟨λhn=>absurd hn (rP hT hs j (by omega) hj3),λi hi=>?_⟩;obtain⟨h1,h2,h3⟩:=aJ hT hd hi;rw[Tf hs h1]at h2;have PI:p≤i:=by refine Nat.le_of_not_lt λAb=>?_;rw[EK i Ab]at h2;cases h2
           have hiq:i<q:=by refine ZId λhle=>?_;have :=h3 j (Qv RI i hle h1 j hj2);rw[hj3]at this;cases this
           obtain⟨o,ho⟩:∃o,seg[i-p]?=some o:=⟨seg[i-p],ZGU (by omega)⟩;have Qz:=ZBr _ _ ho;rw[show p+(i-p)=i from by omega]at Qz;obtain⟨ob,rc,m1,m2,m3⟩:=k3 _ _ ho;rw[show p+(i-p)=i from by omega]at m1;refine ZAx (L:=λj=>listed.getD j false) (n0:=nx) hτ hκ hT Qz m1 (ZBd ob m2) m3 k0 ZBg X9 Tl rfl h2 (λq hq hl j hj _=>hd q.i (Tl q hq) hl j hj) (λj hj _=>h3 j hj) hr hf λa' E' hr' hf'=>?_;have Gw:∀j,(listed.setIfInBounds i true).getD j false=Gf (λj=>listed.getD j false) i j:=λj=>by rw[OH (by omega)];rfl
           refine ih (listed.setIfInBounds i true) a' E' (by simpa using hs) (zO hT hs hd hi) (λj hj=>?_) (λj hj mM=>?_) ?_ ?_ λq hq hl=>hf' q hq (by rw[←Gw];exact hl);·rw[OH (by omega),EK j hj];rfl
           ·rw[OH (by omega),J0 j hj mM];simp;omega
           ·have :=eW hs h1 h2;omega
           ·rw[SE (p:=λj=>(listed.setIfInBounds i true).getD j false) (q:=Gf (λj=>listed.getD j false) i)];·exact hr'
            ·intro r _;exact Gw r.i
        obtain⟨E,rfl,r1⟩:=hr;refine key fuel listed a E hB.1 (eD hT hB) (λj hj=>by rw[hB.2 j (by omega)];simpa using hj) (λj hj mM=>?_) hc ?_ λr hr _=>r1.fresh _ (by show nx≤nx+r.i;omega)
        ·have RH:p≤q:=by omega
         rw[hB.2 j hj];simp;omega
        ·rw[aS];·exact⟨r1.good,λl hl=>r1.fresh l (by have :nx+ops.size≤l:=hl;show nx≤l;omega),r1.step,r1.drawn,r1.size,r1.df,r1.rep⟩
         ·intro r hr;have :=k1 r hr;rw[hB.2 r.i (Tl r hr)];simp;omega
def rC(l:List Nat):Nat→Nat→Nat|0,k=>k|f+1,k=>match B7 k l with|true=>rC l f (k+1)|false=>k
def QM(T:List (Nat×List Nat)):Nat→Nat→Nat→List Nat→List Nat|0,_,_,acc=>acc|i+1,n,m,acc=>match rC (Ch i T) n 0 with|k=>match Nat.ble k m with
 |true=>match Nat.ble i k with
  |true=>match i with|0=>acc|j+1=>QM T i n k (i::acc)
  |false=>QM T i n k acc
 |false=>match Nat.ble i m with
  |true=>match i with|0=>acc|j+1=>QM T i n m (i::acc)
  |false=>QM T i n m acc
def TL(τ:Ap)(κ:A2)(X:XT)(l:List Oper)(s:St)(k:St→Prop):Prop:=match l.length with|n=>match rB 0 l []with|T=>match Ru T 0 l with|false=>False|true=>match QM T n n n [n]with|qs=>Og τ κ X T l n qs 0 l s k
theorem BG.drawn{cx:Cx}{s:St}{a:Act}{w:World}(h:BG P cx s a w):BG P cx s a {w with drawn:=w.drawn+1}:=by obtain⟨E,rfl,r⟩:=h;obtain⟨g,st⟩:=r.good.at (w:={E.w with drawn:=E.w.drawn+1}) rfl (ZJL _) rfl rfl rfl;exact⟨E.at _,rfl,g,r.fresh,by simpa using r.step.trans st,ZGd r.drawn (ZJL _),r.size,r.df.ext st.ext,λt=>(r.rep t).mono st.ext⟩
theorem zP(hτ:BQ P τ)(hκ:BK P κ)(hm:P.follows .mixedOrders=true){r:Option Nat}{cx:Cx}{X:XT}(hX:P9 P r cx X){id:Nat}{ops:Array Oper}{s:St}{k:St→Prop}{R:Ee}(h:TL τ κ X ops.toList s k){a:Act}{w:World}(hr:BG P cx s a w)(hk:∀s' a' w',Aa s s'→k s'→BG P cx s' a' w'→R .normal a' w'):(Code.region id ops true).wpIn (fz r) 0 P R a w:=by
 refine wpIn_region_any hm ?_;unfold TL at h;simp only at h;split at h;·exact h.elim
 ·rename_i hp;refine TM hτ hκ hX (PT.of hp) _ 0 _ s k rfl (ZHu _) (λi _ _ j hj=>absurd hj (by omega)) (by simpa using h) _ _ a _ ⟨by simp,λj hj=>?_⟩ ?_ hr.drawn hk;·simp[ZGV,hj]
  ·refine ZGd (ZGf _ _) (by simp)
theorem zQ(hτ:BQ P τ)(hκ:BK P κ)(hm:P.follows .mixedOrders=true):Vt P (TL τ κ):=λX id ops s k cx r R hX h a w hr hk=>zP hτ hκ hm hX h hr hk
abbrev walk(τ:Ap)(κ:A2)(φ:Nat→Option FX):EP:=bB τ κ φ (TL τ κ) 8
theorem Cw(hτ:BQ P τ)(hκ:BK P κ)(hφ:∀g fi,φ g=some fi→fi.Ok P g)(hm:P.follows .mixedOrders=true):Cy P (walk τ κ φ):=sC hτ hκ hφ (zQ hτ hκ hm) 8
end
section
variable {P : Program} {τ : Ap} {κ : A2} {φ : Nat → Option FX}
def C0.{u}{α:Type u}(n:Nat):List (Nat×α)→Option α|[]=>none|(m,x)::r=>match Nat.beq m n with|true=>some x|false=>C0 n r
def B5(n:Nat):List (Nat×CX)→Option CX|[]=>none|(m,x)::r=>match Nat.beq m n with|true=>some x|false=>B5 n r
theorem XM{α:Type}{n:Nat}{x:α}:∀{l:List (Nat×α)},C0 n l=some x→(n,x)∈l
 |[],h=>by cases h|(m,y)::r,h=>by
  simp only[C0]at h;split at h;·rename_i e;cases h;rw[ZGJ e];exact ZI1
  ·exact ZGK _ (XM h)
theorem yU:BK P λn=>B5 n []:=λ_ _ h=>by cases h
theorem TE{f:Nat}{c:CX}{l:List (Nat×CX)}(h:c.Ok P f)(k:BK P λn=>B5 n l):BK P λn=>B5 n ((f,c)::l):=λg d hd=>by
 simp only[B5]at hd;split at hd;·rename_i e;cases hd;rw[←ZGJ e];exact h
 ·exact k g d hd
theorem AS{f:Nat}{c:AP}{l:List (Nat×CX)}(h:AQ P f c)(k:BK P λn=>B5 n l):BK P λn=>B5 n ((f,.con c)::l):=TE (c:=.con c) h k
theorem fW{f:Nat}{r:JF}{l:List (Nat×CX)}(h:LC P f r)(k:BK P λn=>B5 n l):BK P λn=>B5 n ((f,.row r)::l):=TE (c:=.row r) h k
theorem Lp.wf{σ:Type}{body:σ→(σ→Prop)→Prop}(I:σ→Prop)(μ:σ→Nat)(h:∀y,I y→∀R:σ→Prop,(∀y',I y'→μ y'<μ y→R y')→body y R){x:σ}(hx:I x):Lp body x:=by
 intro R hR;have key:∀n y,μ y<n→I y→R y:=by intro n;induction n with|zero=>exact λy hn=>absurd hn (Nat.not_lt_zero _)|succ n ih=>exact λy hn hy=>hR _ (h y hy R λy' hy' Ab=>ih y' (by omega) hy')
 exact key (μ x+1) x (ZIq _) hx
end
def Vp:Ty→List Value|.int k=>[.int k 0]|.bool=>[.bool false]|.str=>[.string ByteArray.empty]|.sl _=>[.slice none 0 0]|.pair a b=>Vp a++Vp b|.unit=>[]
theorem WS(w:World)(S:Nat→Prop):∀T:Ty,BZ w S T T.dflt (Vp T)|.int _=>rfl|.bool=>rfl|.str=>rfl|.sl _=>⟨none,0,rfl,⟨ZGR _,ZHu _⟩,λh=>absurd rfl h⟩|.pair a b=>⟨_,_,rfl,WS w S a,WS w S b⟩|.unit=>rfl
theorem ZEb{P:Program}{l:List (Nat×TI)}(h:∀p∈l,p.2.Ok P p.1):BQ P λt=>C0 t l:=λt i ht=>h (t,i) (XM ht)
theorem ZEc{P:Program}{l:List (Nat×TI)}(h:∀p∈l,p.2.Ok P p.1)(q:Nat×TI→Bool):BQ P λt=>C0 t (l.filter q):=λt i ht=>h (t,i) (List.mem_filter.1 (XM ht)).1
theorem TI.ok_mk{P:Program}{t:TypeId}{ti:TI}(h:(P.info? t).map (λi=>(i.size,i.bytes,i.zero.map λz=>(z.cells.toList,z.cells.size)))=some (ti.size,ti.bytes,some (ti.zero,ti.size)))(hk:match ti.k with|.int k=>P.underlying t=some (.int k)|.bool=>P.underlying t=some .bool|.str=>P.underlying t=some .string|.sl e=>P.underlying t=some (.slice e)|.arr n e=>P.underlying t=some (.array n e)∧∃zs sz,(P.info? e).map (λie=>(ie.zero.map λz=>z.cells.toList,ie.size))=some (some zs,sz)∧ti.zero=(List.replicate n zs).flatten∧ti.size=n*sz∧0<n∧n≤9223372036854775807∧0<sz|.st offs=>∃fs,P.underlying t=some (.struct fs)∧fs.toList.map (λf=>(f.offset,P.cellsOf f.type))=offs∧∀p∈offs,p.2≠0|.ptr=>∃e,P.underlying t=some (.pointer e)|.map k e=>P.underlying t=some (.map k e)∧(P.info? e).map (λie=>ie.zero.map λz=>z.oneCell')=some (some true)|.fn=>∃ps rs v,P.underlying t=some (.func ps rs v)|.other=>True)(hc:match ti.code with|some T=>T.size=ti.size∧0<ti.size∧Vp T=ti.zero|none=>True):ti.Ok P t:=by
 obtain⟨k,size,bytes,zero,code⟩:=ti;refine⟨?_,?_,λT hT=>?_⟩;·simp only[ZGo,ZIN]at h;obtain⟨i,hi,h1,h2,h3⟩:=h;obtain⟨z,hz,h4,h5⟩:=h3;exact⟨i,z,hi,h1,h2,hz,h4,h5⟩
 ·cases k;case arr n e=>obtain⟨h1,zs,sz,h2,h3⟩:=hk;simp only[ZGo,ZIN]at h2;obtain⟨ie,ML,⟨ze,RU,rfl⟩,rfl⟩:=h2;exact⟨h1,ie,ze,ML,RU,h3⟩
  case map k e=>obtain⟨h1,h2⟩:=hk;simp only[ZGo]at h2;obtain⟨ie,ML,ze,RU,h3⟩:=h2;exact⟨h1,ie,ze,ML,RU,h3⟩
  all_goals exact hk
 ·simp only at hT;subst hT;obtain⟨h1,h2,h3⟩:=hc;exact⟨h1,h2,λw S=>by simp only at h3;rw[←h3];exact WS w S T⟩
def C5(f:Func):FI:=⟨f.ntmps,f.results.toList,match f.body with|some c=>c|none=>.skip⟩
theorem AL{P:Program}{g:FuncId}{f:Func}(h:P.funcs[g]?=some f)(hb:f.body.isSome=true)(hn:(f.name== "runtime.NumGoroutine")=false):(C5 f).Ok P g:=by refine⟨f,h,?_,rfl,rfl,hn⟩;unfold C5;cases hf:f.body with|some c=>rfl|none=>rw[hf]at hb;cases hb
theorem ZAo{P:Program}:∀g fx,(λn=>C0 n ([]:List (Nat×FX))) g=some fx→fx.Ok P g:=λ_ _ h=>by cases h
theorem Fw{P:Program}{l:List (Nat×FX)}{f:Nat}{x:FX}(h:x.Ok P f)(k:∀g fx,(λn=>C0 n l) g=some fx→fx.Ok P g):∀g fx,(λn=>C0 n ((f,x)::l)) g=some fx→fx.Ok P g:=λg fx hg=>by
 simp only[C0]at hg;split at hg;·rename_i e;cases hg;rw[←ZGJ e];exact h
 ·exact k g fx hg
theorem AT{P:Program}{τ:Ap}(hτ:BQ P τ){run:EP}(hrun:Cy P run){A:An}{f:FuncId}{fi:FI}(hok:fi.Ok P f){ps:List PS}{rs:List Ty}{pre:Option (Cz ps→Prop)}{fn:Cz ps→Bq rs}{Wp:Cz ps→(Bq rs→Prop)→Prop}(hw:∀xs Q,Wp xs Q=Hq τ run A fi ps rs xs Q)(hs:∀xs,Md ps xs→BM (AP.ob ⟨ps,pre,λxs=>AO rs (fn xs)⟩ xs)→Wp xs λr=>r=fn xs):AQ P f ⟨ps,pre,λxs=>AO rs (fn xs)⟩:=yK hτ hrun hok λxs hl hp=>hw xs _▸hs xs hl hp
end Go.Proofs.YtgpdnmfpgkkgcaaGreatDoor
