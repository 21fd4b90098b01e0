/- Part of a proof that a law of the program holds for every input: how abstract states follow the program. No conditions. -/
import Derived.Test.YtgpdnmfpgkkgcaaGreatDoorF02
namespace Go.Proofs.YtgpdnmfpgkkgcaaGreatDoor
open Go
set_option linter.unusedSimpArgs false
set_option linter.unusedVariables false
section
variable {P : Program} {τ : Ap} {κ : A2}
def VU:List Nat→List Nat→Bool|[],_=>true|l::r,M=>match B7 l M with|true=>VU r M|false=>false
theorem tG:∀{a b:List Nat},VU a b=true→∀l∈a,l∈b
 |[],_,_,l,h=>by simp at h|k::r,b,h,l,hl=>by
  simp only[VU]at h;split at h
  ·rename_i hk;rcases List.mem_cons.1 hl with rfl|hl;·exact F3.1 hk
   ·exact tG h l hl
  ·cases h
def aM(τ:Ap)(run:EP)(A:An)(fi:FI)(R:Ih)(a:R.α)(b:R.β)(Q:Bq R.rs→R.β→Prop):Prop:=match fi with|⟨nt,res,code⟩=>match R.vals a with|vs=>match Nat.ble vs.length nt with|false=>False|true=>run A [] false code ⟨nt,JH 0 vs,R.objs b,R.k,[],[],[],[]⟩ λe s=>match Ku e with|false=>False|true=>match LL τ res s with|none=>False|some (v,s2)=>match VU s2.mv R.mv with|false=>False|true=>match OO R.rs v with|none=>False|some r=>match R.back s2.objs with|none=>False|some b'=>Q r b'
theorem ZDi(hτ:BQ P τ){run:EP}(hrun:Cy P run){A:An}{f:FuncId}{fi:FI}(hok:fi.Ok P f){R:Ih}(hl:R.Law)(h:∀a b,R.pre a b→aM τ run A fi R a b (R.post a b)):Sp.Ok P f (.self R):=by
 refine⟨hl,hok.call,λE objs vs ks a b g hg hp cs rv=>?_⟩;obtain⟨g0,YF,Np⟩:=rR hl g hg;have rs:=Np rv;have hin:CallsIn (fz none) 0 P f cs.toArray E.w λe w2=>∃u E' r b',e=.returned u∧E'.w=w2∧R.post a b r b'∧AE P E' (FJ R ks b' objs)∧BL E objs E' (FJ R ks b' objs) (Ff ks R.mv)∧E.w.drawn≤w2.drawn∧AC P E' (AO R.rs r) u:=by
  obtain⟨fn,h1,h2,h3,h4,h5⟩:=hok;have hw:=h a b hp;obtain⟨nt,res,code⟩:=fi;unfold aM at hw;simp only at hw h2 h3 h4;split at hw;·exact hw.elim
  ·rename_i hlen;have Hw:=QW (nt:=nt) (cargs:=cs.toArray) g0 YF (by simpa using rs) (ZGk hlen);refine ZIa h1 h2 trivial ?_;rw[h3];refine hrun A [] none code _ _ ⟨Gz ks E,R.objs b⟩ _ hw _ E.w Hw λe s1 a1 w1 hi hk hr1=>?_;have fin:Ku e=true→LeavesInM (fz none) 0 P fn a1.tmps (λe w2=>∃u E' r b',e=.returned u∧E'.w=w2∧R.post a b r b'∧AE P E' (FJ R ks b' objs)∧BL E objs E' (FJ R ks b' objs) (Ff ks R.mv)∧E.w.drawn≤w2.drawn∧AC P E' (AO R.rs r) u) a1.defers .returning w1:=λhe=>by
    rw[he]at hk;simp only at hk;split at hk;·exact hk.elim
    ·rename_i v s2 hf;split at hk;·exact hk.elim
     ·rename_i Gr;split at hk;·exact hk.elim
      ·rename_i r hr;split at hk;·exact hk.elim
       ·rename_i b' hb;refine Rh hτ (fi:=⟨nt,res,code⟩) h4 hf hr1 λu E2 haft hu=>?_;obtain⟨k1,k2⟩:=ZDj hl g hg haft.good haft.step (tG Gr) hb;exact⟨u,Gl ks E E2,r,b',rfl,rfl,hk,k1,k2,haft.drawn,aU (cF hr hu)⟩
   cases e with|normal=>exact fin rfl|ret=>exact fin rfl|_=>exact hk.elim
 exact callsIn_wide.1 hin
def XQ(τ:Ap)(run:EP)(A:An)(fi:FI)(ps:List PS)(xs:Cz ps)(Q:List Int×Int→Prop):Prop:=match fi with|⟨nt,res,code⟩=>match DR ps xs with|vs=>match Nat.ble vs.length nt with|false=>False|true=>run A [] false code ⟨nt,JH 0 vs,[],0,[],[],[],[]⟩ λe s=>match Ku e with|false=>False|true=>match LL τ res s with|none=>False|some (v,s2)=>match v with
 |.agg [.osl l,.d (.int .i64) k]=>match AB l s2.objs with|some (.row (.int .i64) ys)=>Q (ys,k)|_=>False
 |_=>False
theorem ZCX(hτ:BQ P τ){run:EP}(hrun:Cy P run){A:An}{f:FuncId}{fi:FI}(hok:fi.Ok P f){c:Sj}(h:∀ys,Md c.ps ys→c.pre ys→XQ τ run A fi c.ps ys λr=>r=c.fn ys):P7 P f c:=by
 refine⟨hok.call,λE objs n ys g hn hp args ra=>?_⟩;have hw:=h ys (P1 ra) hp;have g0:AE P ⟨E.w,E.S,λ_=>none⟩ []:=Qg g.sok;have hin:CallsIn (fz none) 0 P f args E.w λe w2=>∃u E',e=.returned u∧E'.w=w2∧AE P E' ((n,.row (.int .i64) (c.fn ys).1)::objs)∧BL E objs E' ((n,.row (.int .i64) (c.fn ys).1)::objs) []∧E.w.drawn≤w2.drawn∧AC P E' (.agg [.osl n,.d (.int .i64) (c.fn ys).2]) u:=by
  obtain⟨fn,h1,h2,h3,h4,h5⟩:=hok;obtain⟨nt,res,code⟩:=fi;unfold XQ at hw;simp only at hw h2 h3 h4;split at hw;·exact hw.elim
  ·rename_i hlen;have Hw:=QW (nt:=nt) (nx:=0) g0 (λ_ _=>rfl) ra (ZGk hlen);refine ZIa h1 h2 trivial ?_;rw[h3];refine hrun A [] none code _ _ ⟨⟨E.w,E.S,λ_=>none⟩,[]⟩ _ hw _ E.w Hw λe s1 a1 w1 hi hk hr1=>?_;have fin:Ku e=true→LeavesInM (fz none) 0 P fn a1.tmps (λe w2=>∃u E',e=.returned u∧E'.w=w2∧AE P E' ((n,.row (.int .i64) (c.fn ys).1)::objs)∧BL E objs E' ((n,.row (.int .i64) (c.fn ys).1)::objs) []∧E.w.drawn≤w2.drawn∧AC P E' (.agg [.osl n,.d (.int .i64) (c.fn ys).2]) u) a1.defers .returning w1:=λhe=>by
    rw[he]at hk;simp only at hk;split at hk;·exact hk.elim
    ·rename_i v s2 hf;split at hk
     ·rename_i l k;split at hk
      ·rename_i zs ho;refine Rh hτ (fi:=⟨nt,res,code⟩) h4 hf hr1 λu E2 haft hu=>?_;obtain⟨rfl,rfl⟩:zs=(c.fn ys).1∧k=(c.fn ys).2:=by rw[←hk];exact⟨rfl,rfl⟩
       obtain⟨L,hL,hat⟩:=haft.good.at_ l _ ho;have st:=haft.step;have hd0:∀b,¬Bp (⟨E.w,E.S,λ_=>none⟩:AF) [] b:=λb⟨_,_,_,h,_⟩=>by cases h
       have hx:CK E ⟨E2.w,E2.S,λj=>if j=n then E2.loc l else E.loc j⟩ []:=⟨λb hb=>st.ext.S b hb,λj K _ hK=>by
        have :j≠n:=λe=>by subst e;rw[hn]at hK;cases hK
        simp only[ZGA this];exact hK⟩;have MK:∀b,b<E.w.heap.size→E2.w.heap[b]?=E.w.heap[b]?:=λb hb=>st.frame b hb (hd0 b);have BW:∀b,Bp E2 s2.objs b→E.w.heap.size≤b:=λb hb=>(st.own b hb).elim id λh=>(hd0 b h).elim;have Xt:Ay P ⟨E2.w,E2.S,λj=>if j=n then E2.loc l else E.loc j⟩ L (.row (.int .i64) (c.fn ys).1):=hat.keepS (E':=⟨E2.w,E2.S,λj=>if j=n then E2.loc l else E.loc j⟩) (f:=λ_=>.any) (λv c r=>K6 (E:=E2) (E':=⟨E2.w,E2.S,λj=>if j=n then E2.loc l else E.loc j⟩) (λb hb=>⟨hb,rfl⟩) (λv c _ _=>.any c) r) (λb hb=>⟨hb,rfl⟩) λ_=>rfl;have hcase:∀j o,AB j ((n,Obj.row (.int .i64) (c.fn ys).1)::objs)=some o→j=n∧o=.row (.int .i64) (c.fn ys).1∨j≠n∧AB j objs=some o:=λj o h=>by
        rw[BA]at h;split at h;·rename_i e;cases h;exact .inl ⟨e.symm,rfl⟩
        ·rename_i e;exact .inr ⟨λe'=>e e'.symm,h⟩
       have D6:∀b,Bp (⟨E2.w,E2.S,λj=>if j=n then E2.loc l else E.loc j⟩:AF) ((n,Obj.row (.int .i64) (c.fn ys).1)::objs) b→Bp E2 s2.objs b∧E.w.heap.size≤b∨Bp E objs b:=λb⟨j,o,K,k1,k2,k3,k4⟩=>by
        rcases hcase j o k1 with⟨rfl,rfl⟩|⟨hne,ho'⟩;·simp only[ZHa]at k2;have hb:Bp E2 s2.objs b:=⟨l,_,K,ho,k2,k3,k4⟩;exact .inl ⟨hb,BW b hb⟩
        ·simp only[ZGA hne]at k2;exact .inr ⟨j,o,K,ho',k2,k3,k4⟩
       refine⟨u,⟨E2.w,E2.S,λj=>if j=n then E2.loc l else E.loc j⟩,rfl,rfl,⟨λj o h=>?_,λb hb hs=>?_,haft.good.sl,haft.good.tab,λi j o o' K K' k1 k2 k3 k4 k5 k6 k7=>?_⟩,⟨hx,st.os,st.tape,st.output,st.size,λb hb _=>MK b hb,λb hb=>?_,λb hb=>?_,λj h=>?_,λj h=>?_⟩,haft.drawn,?_⟩
       ·rcases hcase j o h with⟨rfl,rfl⟩|⟨hne,ho'⟩;·exact⟨L,by simp only[ZHa];exact hL,Xt⟩
        ·obtain⟨K,hK,ha⟩:=g.at_ j o ho';exact⟨K,by simp only[ZGA hne];exact hK,ha.keep hx λhh=>MK _ (g.own_lt ⟨j,o,K,ho',hK,hh,rfl⟩)⟩
       ·rcases D6 b hb with⟨h,_⟩|h;·exact haft.good.ns b h hs
        ·rcases st.st b hs with k|k|k;·exact g.ns b h k
         ·have :=g.own_lt h;have k:E.w.heap.size≤b:=k;omega
         ·exact hd0 b k
       ·rcases hcase i o k1 with⟨rfl,rfl⟩|⟨hne,ho1⟩
        ·rcases hcase j o' k2 with⟨rfl,rfl⟩|⟨Yf,ho2⟩;·rfl
         ·simp only[ZHa]at k3;simp only[ZGA Yf]at k4;have a1:=BW K.b ⟨l,_,K,ho,k3,k5,rfl⟩;have a2:=g.own_lt ⟨j,o',K',ho2,k4,k6,rfl⟩;omega
        ·simp only[ZGA hne]at k3;rcases hcase j o' k2 with⟨rfl,rfl⟩|⟨Yf,ho2⟩;·simp only[ZHa]at k4;have a1:=BW K'.b ⟨l,_,K',ho,k4,k6,rfl⟩;have a2:=g.own_lt ⟨i,o,K,ho1,k3,k5,rfl⟩;omega
         ·simp only[ZGA Yf]at k4;exact g.inj i j o o' K K' ho1 ho2 k3 k4 k5 k6 k7
       ·rcases D6 b hb with⟨_,h⟩|h;·exact .inl h
        ·exact .inr h
       ·rcases st.st b hb with k|k|k;·exact .inl k
        ·exact .inr (.inl k)
        ·exact(hd0 b k).elim
       ·rw[BA]at h;split at h;·cases h
        ·exact h
       ·rw[BA]at h;split at h;·cases h
        ·rename_i e;simp only[ZGA λe'=>e (Eq.symm e')]
       ·have Tn:=V2 hu;obtain⟨ca,rfl,rr⟩:=Tn;match hc:ca.toList,rr with
        |[c1,c2],rr=>obtain⟨K,hK,rfl⟩:=GQ rr.head;have e2:=rr.tail.head.int_inv;subst e2;have hca:ca=#[K.v,.int .i64 (c.fn ys).2]:=ZJd (by rw[hc]);rw[hca];refine .agg rfl λj hj=>?_;match j,hj with|0,_=>exact .osl (L:=K) (by show(if n=n then E2.loc l else E.loc n)=some K;rw[ZGE rfl];exact hK)|1,_=>exact .mk_int _ _
        |[],rr=>exact absurd rr.1 (by simp)|[_],rr=>exact absurd rr.1 (by simp)|_::_::_::_,rr=>exact absurd rr.1 (by simp)
      ·exact hk.elim
     ·exact hk.elim
   cases e with|normal=>exact fin rfl|ret=>exact fin rfl|_=>exact hk.elim
 exact callsIn_wide.1 hin
end
section
variable {P : Program} {τ : Ap} {κ : A2}
theorem U2{r:Option Nat}{o:Oper}{a:Act}{w w':World}{v:Value}{next:Act→World→Prop}{Q:Ee}(hd:∀c,o.op≠.defer c)(h:(execOp a.eval o).run P w=.ok (.value v) w')(hn:next (a.put o.dst v) w'):o.wpIn (fz r) 0 P a w next Q:=by refine⟨λ_ _=>trivial,?_⟩;rw[ZIx _ _ _ hd,h];exact hn
theorem xT{E:AF}{objs:AH}(g:AE P E objs)(c:Value)(t:TypeId):∃E',E'.w=E.w.alloc (.cells #[c] t)∧E'.S E.w.heap.size∧AE P E' objs∧BL E objs E' objs []:=by
 have g0:AE P ⟨E.w,E.S,λ_=>none⟩ []:=Qg g.sok;obtain⟨E1,hw,g1,s1,hl⟩:=Rv (n:=0) (cs:=[V.any]) (vals:=#[c]) (t:=t) g0 rfl (.cons (.any c) .nil);obtain⟨g2,s2⟩:=g1.still (l:=0) (by rfl) hl;have st:=s1.trans s2;have hd0:∀b,¬Bp (⟨E.w,E.S,λ_=>none⟩:AF) [] b:=λb⟨_,_,_,h,_⟩=>by cases h
 have MK:∀b,b<E.w.heap.size→E1.w.heap[b]?=E.w.heap[b]?:=λb hb=>st.frame b hb (hd0 b);have hx:CK E ⟨E1.w,(E1.still E.w.heap.size ((Obj.box [V.any]).has {b:=E.w.heap.size})).S,E.loc⟩ []:=⟨λb hb=>st.ext.S b hb,λj K _ hK=>hK⟩;have D6:∀b,Bp (⟨E1.w,(E1.still E.w.heap.size ((Obj.box [V.any]).has {b:=E.w.heap.size})).S,E.loc⟩:AF) objs b→Bp E objs b:=λb⟨l,o,L,h1,h2,h3,h4⟩=>⟨l,o,L,h1,h2,h3,h4⟩;have BO:∀b,(E1.still E.w.heap.size ((Obj.box [V.any]).has {b:=E.w.heap.size})).S b→E.S b∨E.w.heap.size≤b:=λb hb=>by
  rcases st.st b hb with k|k|k;·exact .inl k
  ·exact .inr k
  ·exact(hd0 b k).elim
 refine⟨⟨E1.w,(E1.still E.w.heap.size ((Obj.box [V.any]).has {b:=E.w.heap.size})).S,E.loc⟩,hw,.inr ⟨trivial,rfl⟩,⟨λl o h=>?_,λb hb hs=>?_,g2.sl,g2.tab,λi j o o' K K' k1 k2 k3 k4=>g.inj i j o o' K K' k1 k2 k3 k4⟩,⟨hx,st.os,st.tape,st.output,st.size,λb hb _=>MK b hb,λb hb=>.inr (D6 b hb),λb hb=>(BO b hb).elim .inl λh=>.inr (.inl h),λl h=>h,λl h=>rfl⟩⟩;·obtain⟨K,hK,ha⟩:=g.at_ l o h;exact⟨K,hK,ha.keep hx λhh=>MK _ (g.own_lt ⟨l,o,K,h,hK,hh,rfl⟩)⟩
 ·have hb':=D6 b hb;rcases BO b hs with k|k;·exact g.ns b hb' k
  ·have :=g.own_lt hb';omega
def eT(i1 i2:Nat)(t t1 t2 t3 t4:TypeId)(h:FuncId)(p1 p2 p3 p4:String)(af:Array Edge):Code:=(Code.region i1 #[{dst:=some 1,op:=Op.box t (.tmp 0),type:=t1,pos:=p1,after:=#[],guard:=none},{dst:=some 2,op:=Op.assign (.const .nilFunc),type:=t2,pos:=p2,after:=#[],guard:=none}] false).seq ((Code.region i2 #[{dst:=some 3,op:=Op.makeFunc (.func h) #[] #[.tmp 1],type:=t3,pos:=p3,after:=#[],guard:=none},{dst:=some 2,op:=Op.assign (.tmp 3),type:=t4,pos:=p4,after:=af,guard:=none}] false).seq .ret)
theorem xX{f:FuncId}{fi:FI}(hok:fi.Ok P f){i1 i2:Nat}{t t1 t2 t3 t4:TypeId}{h:FuncId}{p1 p2 p3 p4:String}{af:Array Edge}(Ci:fi=⟨4,[.tmp 2],eT i1 i2 t t1 t2 t3 t4 h p1 p2 p3 p4 af⟩):Sh P f h:=by
 refine⟨hok.call,λE objs v c g hs rc=>?_⟩;obtain⟨E',hw,hS,g',st⟩:=xT g c t;have IN:=SM hs rc;have hcells:c.cells=#[c]:=by cases c<;>simp_all[Value.oneCell',Value.cells]
 obtain⟨fn,h1,h2,h3,h4,h5⟩:=hok;subst Ci;simp only at h2 h3 h4;have hin:CallsIn (fz none) 0 P f #[c] E.w λe w2=>∃u E',e=.returned u∧E'.w=w2∧AE P E' objs∧BL E objs E' objs []∧E.w.drawn≤w2.drawn∧AC P E' (.fn (.func h) [] [.er [v]]) u:=by
  refine ZIa h1 h2 trivial ?_;rw[h3];unfold eT;refine wpIn_seq (wpIn_region ?_);show wpOpsIn (fz none) 0 P _ _ [0,1] _ _;simp only[wpOpsIn];simp[Region.wanted];refine U2 (v:=.pointer (some ⟨E.w.heap.size,0,none⟩)) (w':=E'.w) (λ_ h=>by cases h) ?_ ?_;·show((do let v←Instr.box t _;pure (Next.value v):Sem Next)).run P E.w=_;rw[hw];simp[Instr.box,newVar,newRow,Act.eval,hcells]
  ·refine U2 (v:=.nilFunc) (w':=E'.w) (λ_ h=>by cases h) rfl ?_;refine wpIn_seq (wpIn_region ?_);show wpOpsIn (fz none) 0 P _ _ [0,1] _ _;simp only[wpOpsIn];simp[Region.wanted];refine U2 (v:=.func (.func h) #[] #[.pointer (some ⟨E.w.heap.size,0,none⟩)]) (w':=E'.w) (λ_ h=>by cases h) ?_ ?_;·simp[execOp,Act.eval,Act.put,Instr.makeFunc]
   ·refine U2 (v:=.func (.func h) #[] #[.pointer (some ⟨E.w.heap.size,0,none⟩)]) (w':=E'.w) (λ_ h=>by cases h) ?_ ?_;·rfl
    ·refine wpIn_ret ?_;show LeavesInM _ _ _ _ _ _ _ _ _;refine⟨.func (.func h) #[] #[.pointer (some ⟨E.w.heap.size,0,none⟩)],?_,?_⟩;·rw[rW,ZJM,h4];rfl
     ·refine⟨_,rfl,E',rfl,g',st,?_,.fn rfl rfl (λj hj=>by cases hj) λj hj=>?_⟩;·rw[hw];exact ZGR _
      ·match j,hj with
       |0,_=>
        refine .er (λ_=>c) hS (λj hj=>?_) λj hj=>?_
        ·have :j=0:=by simpa using hj
         subst this;rw[KU (vals:=#[c]) (t:=t) (fr:=(0,0)) (by rw[hw];exact ZIG _ _)];rfl
        ·have :j=0:=by simpa using hj
         subst this;exact rc.mono st.ext
 exact callsIn_wide.1 hin
end
end Go.Proofs.YtgpdnmfpgkkgcaaGreatDoor
