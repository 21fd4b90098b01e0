/- Part of a proof that a law of the program holds for every input: how abstract states follow the program. No conditions. -/
import Derived.Test.YtgpdnmfpgkkgcaaGreatDoorF02
namespace Go.Proofs.YtgpdnmfpgkkgcaaGreatDoor
open Go
set_option linter.unusedVariables false
section
variable {P:Program} {τ:Zae} {κ:ZY} {φ:Nat→Option FX}
theorem Zt1 {r : Option Nat} {cx : Cx} {R : Zji} {c : Code} {body : St → (Exit → St → Prop) → Prop} {k : Exit → St → Prop}
 (hb:∀ (s:St) (k:Exit→St→Prop) (R:Zji),body s k→∀ a w,Rel P cx s a w→(∀ e s' a' w',Inv s s'→k e s'→Rel P cx s' a' w'→R e a' w')→c.wpIn (fz r) 0 P R a w) :
 ∀ (n:Nat) (s:St),unW body n s k→∀ a w,Rel P cx s a w→(∀ e s' a' w',Inv s s'→k e s'→Rel P cx s' a' w'→R e a' w')→Zfh (fz r) P c R a w
 | 0,_,h,_,_,_,_=>h.elim
 | n+1,s,h,a,w,hr,hk=>Zfh.round (hb s _ _ h a w hr (fun e s' a' w' hi hq hr'=>by
  cases e with
  | normal=>exact Zt1 hb n s' hq a' w' hr' (fun e s'' a'' w'' hi' hq' hr''=>hk e s'' a'' w'' (hi.trans hi') hq' hr'')
  | _=>exact hk _ s' a' w' hi hq hr'))
theorem Zri(ops:Array Oper):ops.toList.map some=(List.range ops.size).map (fun i=>ops[i]?):=by
 apply List.ext_getElem?
 intro j
 simp only[List.getElem?_map,Array.getElem?_toList]
 by_cases h:j < ops.size
 ·rw[List.getElem?_range h];simp[h]
 ·rw[List.getElem?_eq_none (by simp;omega),Array.getElem?_eq_none (by omega)];rfl
theorem Zst (hτ : Zbb P τ) (hκ : Zad P κ) (hφ : ∀ g fi, φ g = some fi → fi.Ok P g) {D : DT} (hD : DOk P D) {run : Zh0} (hrun : Zcb P run) {A : An} {Y : List (Nat × An)} {r : Option Nat} {cx : Cx} :
 ∀ (c:Code) (b:Nat) (s:St) (k:Exit→St→Prop) (R:Zji),ZdY τ κ φ D run A Y r.isSome b c s k→∀ a w,Rel P cx s a w→(∀ e s' a' w',Inv s s'→k e s'→Rel P cx s' a' w'→R e a' w')→c.wpIn (fz r) 0 P R a w:=by
 intro c
 induction c with
 | skip=>intro b s k R h a w hr hk;exact wpIn_skip (hk _ s a w (.refl s) h hr)
 | label l=>intro b s k R h a w hr hk;exact wpIn_label (hk _ s a w (.refl s) h hr)
 | ret=>intro b s k R h a w hr hk;exact wpIn_ret (hk _ s a w (.refl s) h hr)
 | exit i=>intro b s k R h a w hr hk;exact wpIn_exit (hk _ s a w (.refl s) h hr)
 | goto l=>intro b s k R h a w hr hk;exact h.elim
 | refuse l=>intro b s k R h a w hr hk;exact h.elim
 | region id ops dr =>
   intro b s k R h a w hr hk
   simp only[ZdY] at h
   obtain⟨s1,hi1,hr1,h⟩:=ZcY h hr
   cases dr with
   | false =>
     simp only at h
     refine wpIn_region ?_
     have:=ZnO (Q:=R) hτ hκ (Zwk (r:=r) (cx:=cx) hτ hφ hrun) (is:=List.range ops.size) (Zri ops) h hr1 (fun s' a' w' hi hq hr'=>hk _ s' a' w' (hi1.trans hi) hq hr')
     exact this
   | true=>exact hD _ id ops s1 _ cx r R (Zwk hτ hφ hrun) h a w hr1 (fun s' a' w' hi hq hr'=>hk _ s' a' w' (hi1.trans hi) hq hr')
 | seq c d ihc ihd =>
   intro b s k R h a w hr hk
   simp only[ZdY] at h
   split at h
   ·refine wpIn_seq (ihc b s _ _ h a w hr (fun e s' a' w' hi hq hr'=>?_))
    cases e with
    | normal=>exact ihd b s' k R hq a' w' hr' (fun e s'' a'' w'' hi' hq' hr''=>hk e s'' a'' w'' (hi.trans hi') hq' hr'')
    | _=>exact hk _ s' a' w' hi hq hr'
   ·rename_i la hla
    refine wpIn_seq (ihc b s.clr _ _ h a w (ZqD hr) (fun e s' a' w' hi hq hr'=>?_))
    have hd:Hd la s s':=(Hd.clr la s).inv hi
    have hmv:∀ l∈s.mv,l∈s'.mv:=fun l hl=>hi.mv l (by rw[Zwt];exact hl)
    cases e with
    | normal =>
      simp only at hq
      split at hq
      ·rename_i y hy
       have hr2:=Zm3 hr hd hy hr'
       exact ihd b _ k R hq a' w' (Zns hr2) (fun e s'' a'' w'' hi' hq' hr''=>hk e s'' a'' w'' ((Zm7 (Hd.head la s y) Zp5).trans hi') hq' hr'')
      ·exact hq.elim
    | _=>exact hk _ _ a' w' (Zm7 hd hmv) hq (Zns hr')
 | cond x c d ihc ihd =>
   intro b s k R h a w hr hk
   simp only[ZdY] at h
   split at h
   ·rename_i v hv
    obtain⟨E,rfl,r1⟩:=id hr
    have rx:=Zd0 r1.rep x
    rw[hv] at rx
    cases v with
    | true=>exact wpIn_cond rx.bool_inv (ihc b s k R h a _ hr hk)
    | false=>exact wpIn_cond rx.bool_inv (ihd b s k R h a _ hr hk)
   ·exact h.elim
 | block id c ih =>
   intro b s k R h a w hr hk
   simp only[ZdY] at h
   refine wpIn_block (ih id s _ _ h a w hr (fun e s' a' w' hi hq hr'=>?_))
   cases e with
   | exit i =>
     simp only at hq
     simp only[Exit.inBlock]
     split at hq
     ·rename_i e
      rw[if_pos (Nat.eq_of_beq_eq_true e)]
      exact hk _ s' a' w' hi hq hr'
     ·rename_i e
      rw[if_neg (Nat.ne_of_beq_eq_false e)]
      exact hk _ s' a' w' hi hq hr'
   | _=>exact hk _ s' a' w' hi hq hr'
 | scope c ih =>
   intro b s k R h a w hr hk
   simp only[ZdY] at h
   refine Zs0 (ih b s _ _ h a w hr (fun e s' a' w' hi hq hr'=>?_))
   cases e with
   | goto l=>exact hq.elim
   | _=>exact hk _ s' a' w' hi hq hr'
 | loop c ih =>
   intro b s k R h a w hr hk
   simp only[ZdY] at h
   split at h
   ·exact h.elim
   ·rename_i sg hsg
    replace hk:∀ e s' a' w',Inv sg s'→k e s'→Rel P cx s' a' w'→R e a' w':=fun e s' a' w' hi=>hk e s' a' w' ((Inv.ghosts hsg).trans hi)
    replace hr:=Zmt hsg a w hr
    split at h
    ·split at h
     ·rename_i n hn
      exact (Zt1 (fun s k R h a w hr hk=>ih b s k R h a w hr hk) n sg h a w hr hk).loop
     ·exact h.elim
    ·rename_i la hla
     have hr0:=Zgl (P:=P) (cx:=cx) la.vs sg a w hr
     have hi0:=Inv.frzVs la.vs sg
     revert h hr0 hi0
     generalize frzVs la.vs sg=s0
     intro h hr0 hi0
     split at h
     ·exact h.elim
     ·rename_i y0 hy0
      have hfirst:Rel P cx (head la s0 y0) a w:=Zm3 hr0 (Hd.clr la s0) hy0 (ZqD hr0)
      refine Zfh.loop (h (fun y=>∀ a w,Rel P cx (head la s0 y) a w→Zfh (fz r) P c R a w) (fun y hy a w hr=>Zfh.round (ih b _ _ _ hy a w hr (fun e s' a' w' hi hq hr'=>?_))) a w hfirst)
      have hd:Hd la s0 s':=(Hd.head la s0 y).inv hi
      have hmv:∀ l∈s0.mv,l∈s'.mv:=fun l hl=>hi.mv l (Zp5 l hl)
      cases e with
      | normal =>
        simp only at hq
        split at hq
        ·rename_i y' hy'
         exact hq a' w' (Zm3 hr0 hd hy' hr')
        ·exact hq.elim
      | _=>exact hk _ _ a' w' (hi0.trans (Zm7 hd hmv)) hq (Zns hr')
 | rangeFunc g ps assign body =>
   intro b s k R h a w hr hk
   simp only[ZdY] at h
   split at h
   ·exact h.elim
   ·rename_i hro
    have hrn:r=none:=by cases r with | none=>rfl | some _=>cases hro
    subst hrn
    obtain⟨nt,tmps,objs,nx,df,wr,di,mv⟩:=s
    simp only at h
    obtain⟨E,rfl,r1⟩:=hr
    refine wpIn_rangeFunc (fun fn _=>?_)
    obtain⟨E2,e1,e2,e3,r2⟩:=Znm r1 fn ps assign body
    have rg:Rep P E2 (evV tmps g) (a.eval g):=(Zd0 r1.rep g).mono e2
    have ry:Zbi P E2 [.yl (nx+1)] [.func (.yield (E.w.heap.size+1)) #[] #[]]:=.cons (.yl e3) .nil
    obtain⟨gf,p,q,f1,f2,f3⟩:=Zn7 hτ hφ hrun h r2 rg ry
    rw[e1] at f3
    refine⟨E.w.heap.size+1,_,_,⟨.fn (.func gf) q,p++#[.func (.yield (E.w.heap.size+1)) #[] #[]]⟩,(E.w.alloc (.deferred (some []))).alloc (.loop { state:=.ready,pending:=none,fn,tmps:=a.tmps,params:=ps,assign,body,defers:=E.w.heap.size }),
     gf,p++#[.func (.yield (E.w.heap.size+1)) #[] #[]]++q,(E.w.alloc (.deferred (some []))).alloc (.loop { state:=.ready,pending:=none,fn,tmps:=a.tmps,params:=ps,assign,body,defers:=E.w.heap.size }),
     Zgp fn a.tmps ps assign body E.w,?_,fun _ _=>trivial,?_,fun h=>by simp[fz,Fence.wide] at h,?_⟩
    ·show (Deferred.ofValue (a.eval g) _).run P _=_
     rw[f1]
     simp[rangeCall,Deferred.ofValue,show ∀ c,a.eval (.const c)=c from fun _=>rfl]
    ·simp only[invoke]
     exact Zex f2 _ _
    ·have f3':=fun R hR=>f3 R hR
     simp only[List.toArray] at f3'
     refine f3' _ (fun u v s3 E' hi hq hr' _ hx=>?_)
     refine Zqu hq hr' (fun hm=>?_) (fun e s' a' w' hi' hq' hr''=>hk e s' a' w' ?_ hq' hr'')
     ·exact hx _ _ hm e3
     ·refine Inv.trans ?_ (hi.trans hi')
      exact⟨rfl,by simp only;omega,fun _ h=>List.mem_cons_of_mem _ h,fun _ h=>List.mem_cons_of_mem _ (List.mem_cons_of_mem _ h),fun _ h=>h,fun _ _=>rfl,fun k hk=>by
       simp only[List.mem_cons,not_or] at hk
       simp only;rw[Zk,if_neg (Ne.symm hk.1),Zk,if_neg (Ne.symm hk.2.1)],fun hn=>by simp at hn⟩
def ZwY(τ:Zae)(κ:ZY)(φ:Nat→Option FX)(D:DT):Nat→Zh0
 | 0,_,_,_,_,_,_=>False
 | n+1,A,Y,ro,c,s,k=>ZdY τ κ φ D (ZwY τ κ φ D n) A Y ro 0 c s k
theorem Zrr(hτ:Zbb P τ)(hκ:Zad P κ)(hφ:∀ g fi,φ g=some fi→fi.Ok P g){D:DT}(hD:DOk P D):∀ n,Zcb P (ZwY τ κ φ D n)
 | 0=>fun _ _ _ _ _ _ _ _ h=>h.elim
 | n+1=>fun A Y r c s k cx R h a w hr hk=>Zst hτ hκ hφ hD (Zrr hτ hκ hφ hD n) c 0 s k R h a w hr hk
end
section
variable {P:Program} {τ:Zae} {κ:ZY} {φ:Nat→Option FX}
def fnW(τ:Zae)(run:Zh0)(A:An)(fi:FI)(ps:List PS)(rs:List Ty)(xs:Zb9 ps)(Q:Zeg rs→Prop):Prop:=match fi with
 | ⟨nt,res,code⟩=>match Zjr ps xs with
   | vs=>match Nat.ble vs.length nt with
     | false=>False
     | true=>run A [] false code ⟨nt,ZcP 0 vs,[],0,[],[],[],[]⟩ (fun e s=>match Zju e with
       | false=>False
       | true=>match Zgb τ res s with
         | none=>False
         | some (v,s2)=>match Zt4 9 s2.objs [v] with
           | some ([v'],_)=>match Znw rs v' with
             | some r=>Q r
             | none=>False
           | _=>False)
def fnV(τ:Zae)(run:Zh0)(A:An)(fi:FI)(ps:List PS)(xs:Zb9 ps)(Q:V→Prop):Prop:=match fi with
 | ⟨nt,res,code⟩=>match Zjr ps xs with
   | vs=>match Nat.ble vs.length nt with
     | false=>False
     | true=>run A [] false code ⟨nt,ZcP 0 vs,[],0,[],[],[],[]⟩ (fun e s=>match Zju e with
       | false=>False
       | true=>match Zgb τ res s with
         | none=>False
         | some (v,s2)=>match Zt4 9 s2.objs [v] with
           | some ([v'],_)=>Q v'
           | _=>False)
theorem Zgg{w:World}{S:Nat→Prop}(hS:Sok P w S):Z0 P ⟨w,S,fun _=>none⟩ [] :=
 ⟨fun l o h=>(by cases h),fun b h=>(by obtain⟨l,o,L,h,_⟩:=h;cases h),hS.lt,hS.tab,fun i j o o' L L' h=>(by cases h)⟩
theorem Zl8 (hτ : Zbb P τ) {run : Zh0} (hrun : Zcb P run) {A : An} {f : FuncId} {fi : FI} (hok : fi.Ok P f) {ps : List PS} {rs : List Ty} {xs : Zb9 ps} {Q : Zeg rs → Prop} (h : fnW τ run A fi ps rs xs Q) {w : World} {S : Nat → Prop}
 (hS:Sok P w S) {args:Array Value} (ra:Zbi P ⟨w,S,fun _=>none⟩ (Zjr ps xs) args.toList) :
 Calls P f args w fun e w2=>∃ v S2 r,e=.returned v∧Zhq w S w2 S2∧Rep P ⟨w2,S2,fun _=>none⟩ (Zbl rs r) v∧Q r:=by
 obtain⟨nt,res,code⟩:=fi
 obtain⟨fn,h1,h2,h3,h4,h5⟩:=id hok
 unfold fnW at h
 simp only at h h3 h4
 split at h
 ·exact h.elim
 ·rename_i hlen
  have g0:Z0 P ⟨w,S,fun _=>none⟩ []:=Zgg hS
  have hrel:=Zel (nx:=0) (nt:=nt) g0 (fun _ _=>rfl) ra (Nat.le_of_ble_eq_true hlen)
  have hin:CallsIn (fz none) 0 P f args w fun e w2=>∃ v S2 r,e=.returned v∧Zhq w S w2 S2∧Rep P ⟨w2,S2,fun _=>none⟩ (Zbl rs r) v∧Q r:=by
   refine callsIn_of_wp_marks h1 h2 trivial ?_
   rw[h3]
   refine hrun A [] none code _ _ ⟨⟨w,S,fun _=>none⟩,[]⟩ _ h _ w hrel (fun e s1 a1 w1 hi hk hr1=>?_)
   have fin:Zju e=true→LeavesInM (fz none) 0 P fn a1.tmps (fun e w2=>∃ v S2 r,e=.returned v∧Zhq w S w2 S2∧Rep P ⟨w2,S2,fun _=>none⟩ (Zbl rs r) v∧Q r) a1.defers .returning w1:=fun he=>by
    rw[he] at hk
    simp only at hk
    split at hk
    ·exact hk.elim
    ·rename_i v s2 hf
     split at hk
     ·rename_i v' ks hl
      split at hk
      ·rename_i r hr
       refine Zf0 hτ (fi:=⟨nt,res,code⟩) h4 hf hr1 (fun u E' haft hu=>?_)
       have hno:∀ b,¬ Zdj ⟨w,S,fun _=>none⟩ [] b:=fun b h=>(by obtain⟨l,o,L,h,_⟩:=h;cases h)
       obtain⟨S',k1,k2,_,k4,k5,k6⟩:=ZkM hl haft.good (.cons hu .nil)
       have st:=haft.step
       refine⟨u,S',r,rfl,⟨haft.drawn,st.os,st.tape,st.output,st.size,fun b hb=>st.frame b hb (hno b),fun b hb=>k1 b (st.ext.S b hb).1,fun b hb=>?_,k2⟩,ZmZ (Zia hr k5.head),hk⟩
       rcases k6 b hb with h | h
       ·rcases st.st b h with h | h | h
        ·exact .inl h
        ·exact .inr h
        ·exact absurd h (hno b)
       ·rcases st.own b h with h | h
        ·exact .inr h
        ·exact absurd h (hno b)
      ·exact hk.elim
     ·exact hk.elim
   cases e with
   | normal=>exact fin rfl
   | ret=>exact fin rfl
   | _=>exact hk.elim
  exact callsIn_wide.1 hin
theorem Zr5 (hτ : Zbb P τ) {run : Zh0} (hrun : Zcb P run) {A : An} {f : FuncId} {fi : FI} (hok : fi.Ok P f) {ps : List PS} {xs : Zb9 ps} {Q : V → Prop} (h : fnV τ run A fi ps xs Q) {w : World} {S : Nat → Prop}
 (hS:Sok P w S) {args:Array Value} (ra:Zbi P ⟨w,S,fun _=>none⟩ (Zjr ps xs) args.toList) :
 Calls P f args w fun e w2=>∃ v S2 r,e=.returned v∧Zhq w S w2 S2∧Rep P ⟨w2,S2,fun _=>none⟩ r v∧Q r:=by
 obtain⟨nt,res,code⟩:=fi
 obtain⟨fn,h1,h2,h3,h4,h5⟩:=id hok
 unfold fnV at h
 simp only at h h3 h4
 split at h
 ·exact h.elim
 ·rename_i hlen
  have g0:Z0 P ⟨w,S,fun _=>none⟩ []:=Zgg hS
  have hrel:=Zel (nx:=0) (nt:=nt) g0 (fun _ _=>rfl) ra (Nat.le_of_ble_eq_true hlen)
  have hin:CallsIn (fz none) 0 P f args w fun e w2=>∃ v S2 r,e=.returned v∧Zhq w S w2 S2∧Rep P ⟨w2,S2,fun _=>none⟩ r v∧Q r:=by
   refine callsIn_of_wp_marks h1 h2 trivial ?_
   rw[h3]
   refine hrun A [] none code _ _ ⟨⟨w,S,fun _=>none⟩,[]⟩ _ h _ w hrel (fun e s1 a1 w1 hi hk hr1=>?_)
   have fin:Zju e=true→LeavesInM (fz none) 0 P fn a1.tmps (fun e w2=>∃ v S2 r,e=.returned v∧Zhq w S w2 S2∧Rep P ⟨w2,S2,fun _=>none⟩ r v∧Q r) a1.defers .returning w1:=fun he=>by
    rw[he] at hk
    simp only at hk
    split at hk
    ·exact hk.elim
    ·rename_i v s2 hf
     split at hk
     ·rename_i v' ks hl
      ·refine Zf0 hτ (fi:=⟨nt,res,code⟩) h4 hf hr1 (fun u E' haft hu=>?_)
       have hno:∀ b,¬ Zdj ⟨w,S,fun _=>none⟩ [] b:=fun b h=>(by obtain⟨l,o,L,h,_⟩:=h;cases h)
       obtain⟨S',k1,k2,_,k4,k5,k6⟩:=ZkM hl haft.good (.cons hu .nil)
       have st:=haft.step
       refine⟨u,S',v',rfl,⟨haft.drawn,st.os,st.tape,st.output,st.size,fun b hb=>st.frame b hb (hno b),fun b hb=>k1 b (st.ext.S b hb).1,fun b hb=>?_,k2⟩,ZjV (E:=⟨E'.w,S',E'.loc⟩) (E':=⟨E'.w,S',fun _=>none⟩) (fun b hb=>⟨hb,rfl⟩) k5.head (by simp only[fkL] at k4;split at k4<;>first | (cases k4;done) | assumption),hk⟩
       rcases k6 b hb with h | h
       ·rcases st.st b h with h | h | h
        ·exact .inl h
        ·exact .inr h
        ·exact absurd h (hno b)
       ·rcases st.own b h with h | h
        ·exact .inr h
        ·exact absurd h (hno b)
     ·exact hk.elim
   cases e with
   | normal=>exact fin rfl
   | ret=>exact fin rfl
   | _=>exact hk.elim
  exact callsIn_wide.1 hin
def ZlS:(T:Ty)→T.den→Prop
 | .sl t,l=>List.length (α:=t.den) l≤9223372036854775807∧∀ x∈(l:List t.den),ZlS t x
 | .pair a b,x=>ZlS a x.1∧ZlS b x.2
 | _,_=>True
def Zmh:(ps:List PS)→Zb9 ps→Prop
 | [],_=>True
 | .d T::l,x=>ZlS T x.1∧Zmh l x.2
 | .e T::l,x=>ZlS T x.1∧Zmh l x.2
 | .f _ _::l,x=>Zmh l x.2
theorem Zem{w:World}{S:Nat→Prop}:∀ {T:Ty} {x:T.den} {cs:List Value},Zbq w S T x cs→ZlS T x
 | .int _,_,_,_=>trivial
 | .bool,_,_,_=>trivial
 | .str,_,_,_=>trivial
 | .unit,_,_,_=>trivial
 | .pair a b,x,cs,⟨c1,c2,_,h1,h2⟩=>⟨Zem h1,Zem h2⟩
 | .sl t,l,cs,⟨a,c,_,hc,hl⟩=>⟨Nat.le_trans hc.1 hc.2,fun x hx=>by
  obtain⟨i,hi⟩:=List.getElem?_of_mem hx
  obtain⟨b,off,_,_,h⟩:=hl (fun e=>by subst e;simp at hi)
  obtain⟨cs',h1,_⟩:=h i x hi
  exact Zem h1⟩
theorem ZhL{E:Env}:∀ {T:Ty} {x:T.den},(∀ v∈flat T x,∃ c,Rep P E v c)→ZlS T x
 | .int _,_,_=>trivial
 | .bool,_,_=>trivial
 | .str,_,_=>trivial
 | .unit,_,_=>trivial
 | .pair a b,x,h=>⟨ZhL fun v hv=>h v (List.mem_append_left _ hv),ZhL fun v hv=>h v (List.mem_append_right _ hv)⟩
 | .sl t,l,h=>by
   obtain⟨c,hc⟩:=h (.d (.sl t) l) (by simp[flat])
   exact Zem (T:=.sl t) (Zhp hc)
theorem ZsI{E:Env}{vs:List V}{cs:List Value}(r:Zbi P E vs cs){v:V}(hv:v∈vs):∃ c,Rep P E v c:=by
 obtain⟨i,hi⟩:=List.getElem?_of_mem hv
 have hlt:=(List.getElem?_eq_some_iff.1 hi).1
 have:=r.2 i hlt
 rw[List.getD_eq_getElem?_getD,hi] at this
 exact⟨_,this⟩
theorem Zuk{E:Env}:∀ {T:Ty} {x:T.den} {c:Value},Rep P E (ZpK T x) c→ZlS T x
 | .pair a b,x,c,r=>by
   obtain⟨ca,rfl,rs⟩:=ZnM (show Rep P E (.agg (flat (.pair a b) x)) c from r)
   exact ZhL fun v hv=>ZsI rs hv
 | .int _,_,_,_=>trivial
 | .bool,_,_,_=>trivial
 | .str,_,_,_=>trivial
 | .unit,_,_,_=>trivial
 | .sl t,l,c,r=>Zem (T:=.sl t) (Zhp r)
theorem Ze1{E:Env}:∀ {ps:List PS} {xs:Zb9 ps} {cs:List Value},Zbi P E (Zjr ps xs) cs→Zmh ps xs
 | [],_,_,_=>trivial
 | .d T::l,x,c::cs,r=>⟨Zuk r.head,Ze1 r.tail⟩
 | .d T::l,x,[],r=>absurd r.1 (by simp[Zjr])
 | .e T::l,x,c::cs,r=>by
   refine⟨?_,Ze1 r.tail⟩
   have h:Rep P E (.er (flat T x.1)) c:=r.head
   cases h with
   | er f _ _ hr =>
     refine ZhL (P:=P) (E:=E) fun v hv=>?_
     obtain⟨i,hi⟩:=List.getElem?_of_mem hv
     have hlt:=(List.getElem?_eq_some_iff.1 hi).1
     have:=hr i hlt
     rw[List.getD_eq_getElem?_getD,hi] at this
     exact⟨_,this⟩
 | .e T::l,x,[],r=>absurd r.1 (by simp[Zjr])
 | .f _ _::l,x,c::cs,r=>Ze1 (ps:=l) r.tail
 | .f _ _::l,x,[],r=>absurd r.1 (by simp[Zjr])
theorem ZsW (hτ : Zbb P τ) {run : Zh0} (hrun : Zcb P run) {A : An} {f : FuncId} {fi : FI} (hok : fi.Ok P f) {ps : List PS} {rs : List Ty} {pre : Option (Zb9 ps → Prop)} {fn : Zb9 ps → Zeg rs}
 (h:∀ xs,Zmh ps xs→okP (Con.ob ⟨ps,pre,fun xs=>Zbl rs (fn xs)⟩ xs)→fnW τ run A fi ps rs xs (fun r=>r=fn xs)):ZW P f ⟨ps,pre,fun xs=>Zbl rs (fn xs)⟩ :=
 ⟨hok.call,fun w S xs hS hp args ra=>Calls.mono (Zl8 hτ hrun hok (h xs (Ze1 ra) hp) hS ra) fun e w2 ⟨v,S2,r,h1,h2,h3,h4⟩=>⟨v,S2,h1,h2,by subst h4;exact h3⟩⟩
theorem Zmi (hτ : Zbb P τ) {run : Zh0} (hrun : Zcb P run) {A : An} {f : FuncId} {fi : FI} (hok : fi.Ok P f) {c : Con}
 (h:∀ xs,Zmh c.ps xs→okP (c.ob xs)→fnV τ run A fi c.ps xs (fun r=>r=c.res xs)):ZW P f c :=
 ⟨hok.call,fun w S xs hS hp args ra=>Calls.mono (Zr5 hτ hrun hok (h xs (Ze1 ra) hp) hS ra) fun e w2 ⟨v,S2,r,h1,h2,h3,h4⟩=>⟨v,S2,h1,h2,by subst h4;exact h3⟩⟩
end
section
variable {P:Program} {τ:Zae} {κ:ZY} {φ:Nat→Option FX}
def Zxl(n:Nat)(l:List Nat):List Nat:=match ZdT n l with
 | true=>l
 | false=>n::l
def ZhY:List Nat→List Nat→List Nat
 | [],l=>l
 | n::r,l=>ZhY r (Zxl n l)
def ZeV(i:Nat)(T:List (Nat×List Nat)):List Nat:=match ZqI i T with
 | some l=>l
 | none=>[]
def ZrV(T:List (Nat×List Nat)):List Edge→List Nat
 | []=>[]
 | e::r=>match Region.binds .any e with
   | true=>Zxl e.on (ZhY (ZeV e.on T) (ZrV T r))
   | false=>ZrV T r
def ZvS:Nat→List Oper→List (Nat×List Nat)→List (Nat×List Nat)
 | _,[],T=>T
 | i,⟨_,_,_,_,af,_⟩::r,T=>match ZrV T af.toList with
   | l=>ZvS (i+1) r ((i,l)::T)
def Zvc(T:List (Nat×List Nat))(j:Nat):List Edge→Bool
 | []=>false
 | e::r=>match Region.binds .any e with
   | true=>match Nat.beq e.on j with
     | true=>true
     | false=>match ZdT j (ZeV e.on T) with
       | true=>true
       | false=>Zvc T j r
   | false=>Zvc T j r
def Zvn(T:List (Nat×List Nat))(af:List Edge)(i:Nat):List Nat→Bool
 | []=>true
 | j::r=>match Zvc T j af with
   | true=>match Nat.blt j i with
     | true=>Zvn T af i r
     | false=>false
   | false=>false
def inE(ps:List Nat):List Edge→Bool
 | []=>true
 | e::r=>match Region.binds .any e with
   | true=>match ZdT e.on ps with
     | true=>inE ps r
     | false=>false
   | false=>inE ps r
def ZmO(T:List (Nat×List Nat)):Nat→List Oper→Bool
 | _,[]=>true
 | i,⟨_,_,_,_,af,_⟩::r=>match ZeV i T with
   | ps=>match inE ps af.toList with
     | true=>match Zvn T af.toList i ps with
       | true=>ZmO T (i+1) r
       | false=>false
     | false=>false
theorem Zny{ps:List Nat}:∀ {l:List Edge},inE ps l=true→∀ e∈l,Region.binds .any e=true→e.on∈ps
 | [],_,e,h,_=>by simp at h
 | e::r,h,e',he,hb=>by
   simp only[inE] at h
   split at h
   ·split at h
    ·rename_i h1
     rcases List.mem_cons.1 he with rfl | he
     ·exact Zbt.1 h1
     ·exact Zny h e' he hb
    ·cases h
   ·rename_i h0
    rcases List.mem_cons.1 he with rfl | he
    ·rw[hb] at h0;cases h0
    ·exact Zny h e' he hb
theorem Zoi{T:List (Nat×List Nat)}{j:Nat}:∀ {l:List Edge},Zvc T j l=true→∃ e∈l,Region.binds .any e=true∧(e.on=j∨j∈ZeV e.on T)
 | [],h=>by cases h
 | e::r,h=>by
   simp only[Zvc] at h
   have rec':Zvc T j r=true→∃ e'∈e::r,Region.binds .any e'=true∧(e'.on=j∨j∈ZeV e'.on T):=fun h=>by
    obtain⟨e',h1,h2⟩:=Zoi h;exact⟨e',List.mem_cons_of_mem _ h1,h2⟩
   split at h
   ·rename_i hb
    split at h
    ·rename_i h1;exact⟨e,by simp,hb,.inl (Nat.eq_of_beq_eq_true h1)⟩
    ·split at h
     ·rename_i h1;exact⟨e,by simp,hb,.inr (Zbt.1 h1)⟩
     ·exact rec' h
   ·exact rec' h
theorem ZkF{T:List (Nat×List Nat)}{af:List Edge}{i:Nat}:∀ {l:List Nat},Zvn T af i l=true→∀ j∈l,Zvc T j af=true∧j < i
 | [],_,j,h=>by simp at h
 | k::r,h,j,hj=>by
   simp only[Zvn] at h
   split at h
   ·rename_i h1
    split at h
    ·rename_i h2
     rcases List.mem_cons.1 hj with rfl | hj
     ·exact⟨h1,Nat.le_of_ble_eq_true h2⟩
     ·exact ZkF h j hj
    ·cases h
   ·cases h
structure PT (ops:Array Oper) (T:List (Nat×List Nat)):Prop where
 lt:∀ i j,i < ops.size→j∈ZeV i T→j < i
 edge:∀ i o e,ops[i]?=some o→e∈o.after→Region.binds .any e=true→e.on∈ZeV i T
 back:∀ i o j,ops[i]?=some o→j∈ZeV i T→∃ e∈o.after,Region.binds .any e=true∧(e.on=j∨j∈ZeV e.on T)
theorem Zj4{T:List (Nat×List Nat)}:∀ {l:List Oper} {i j:Nat} {o:Oper},ZmO T i l=true→l[j]?=some o→inE (ZeV (i+j) T) o.after.toList=true∧Zvn T o.after.toList (i+j) (ZeV (i+j) T)=true
 | [],_,_,_,_,h=>by simp at h
 | ⟨_,_,_,_,af,_⟩::r,i,j,o,h,hj=>by
   simp only[ZmO] at h
   split at h
   ·rename_i h1
    split at h
    ·rename_i h2
     cases j with
     | zero=>simp at hj;subst hj;exact⟨h1,h2⟩
     | succ j =>
       have:=Zj4 (j:=j) h (by simpa using hj)
       rw[show i+1+j=i+(j+1) from by omega] at this
       exact this
    ·cases h
   ·cases h
theorem PT.of{ops:Array Oper}{T:List (Nat×List Nat)}(h:ZmO T 0 ops.toList=true):PT ops T:=by
 have get:∀ i o,ops[i]?=some o→inE (ZeV i T) o.after.toList=true∧Zvn T o.after.toList i (ZeV i T)=true:=fun i o hi=>by
  have:=Zj4 (i:=0) (j:=i) h (by simpa using hi)
  simpa using this
 refine⟨fun i j hi hj=>?_,fun i o e hi he hb=>Zny (get i o hi).1 e (Array.mem_toList_iff.2 he) hb,fun i o j hi hj=>?_⟩
 ·exact (ZkF (get i ops[i] (Array.getElem?_eq_getElem hi)).2 j hj).2
 ·obtain⟨e,h1,h2,h3⟩:=Zoi (ZkF (get i o hi).2 j hj).1
  exact⟨e,Array.mem_toList_iff.1 h1,h2,h3⟩
structure Rc where
 i:Nat
 dst:Option Nat
 v:V
 ed:Zaf
 ks:List Nat
def Zl9:Zaf→List Nat
 | []=>[]
 | (l,_)::r=>l::Zl9 r
theorem Zcx{l:Nat}:∀ {a b:Zaf},Zs l (a++b)=(match Zs l a with | some o=>some o | none=>Zs l b)
 | [],_=>rfl
 | (k,o)::r,b=>by
   rw[List.cons_append,Zk,Zk]
   split
   ·rfl
   ·exact Zcx
theorem Zet{l:Nat}{o:Obj}:∀ {a:Zaf},Zs l a=some o→l∈Zl9 a
 | [],h=>by cases h
 | (k,p)::r,h=>by
   rw[Zk] at h
   split at h
   ·rename_i e;simp[Zl9,e]
   ·exact List.mem_cons_of_mem _ (Zet h)
def Rc.app(r:Rc)(s:St):St:=match r,s with
 | ⟨_, dst, v, ed, _⟩, ⟨nt, tmps, objs, nx, df, wr, di, mv⟩ => ⟨nt, (match dst with
  | some d=>(d,v)::tmps
  | none=>tmps),ed++objs,nx,df,(match dst with
  | some d=>d::wr
  | none=>wr),Zl9 ed++di,mv⟩
def replay(p:Nat→Bool):List Rc→St→St
 | [],s=>s
 | r::rs,s=>replay p rs (if p r.i then r.app s else s)
def Zee(p:Nat→Bool)(t:Nat):List Rc→Option V
 | []=>none
 | r::rs=>match Zee p t rs with
   | some v=>some v
   | none=>if p r.i=true∧r.dst=some t then some r.v else none
def ZdS(p:Nat→Bool)(l:Nat):List Rc→Option Obj
 | []=>none
 | r::rs=>match ZdS p l rs with
   | some o=>some o
   | none=>if p r.i=true then Zs l r.ed else none
theorem Zk6{r:Rc}{s:St}{t:Nat}:Zbr t (r.app s).tmps=if r.dst=some t then r.v else Zbr t s.tmps:=by
 obtain⟨i,dst,v,ed,ks⟩:=r
 cases s
 cases dst with
 | none=>simp[Rc.app]
 | some d=>simp[Rc.app,Z5]
theorem ZoP{r:Rc}{s:St}{l:Nat}:Zs l (r.app s).objs=(match Zs l r.ed with | some o=>some o | none=>Zs l s.objs):=by
 obtain⟨i,dst,v,ed,ks⟩:=r
 cases s
 simp only[Rc.app,Zcx]
theorem Zdh{p:Nat→Bool}{t:Nat}:∀ {R:List Rc} {s:St},Zbr t (replay p R s).tmps=(match Zee p t R with | some v=>v | none=>Zbr t s.tmps)
 | [],_=>rfl
 | r::rs,s=>by
   simp only[replay,Zee]
   rw[Zdh (R:=rs)]
   cases h:Zee p t rs with
   | some v=>rfl
   | none =>
     simp only
     by_cases hp:p r.i=true
     ·rw[if_pos hp,Zk6]
      by_cases hd:r.dst=some t
      ·rw[if_pos hd,if_pos ⟨hp,hd⟩]
      ·rw[if_neg hd,if_neg (fun h=>hd h.2)]
     ·rw[if_neg hp,if_neg (fun h=>hp h.1)]
theorem Zc8{p:Nat→Bool}{l:Nat}:∀ {R:List Rc} {s:St},Zs l (replay p R s).objs=(match ZdS p l R with | some o=>some o | none=>Zs l s.objs)
 | [],_=>rfl
 | r::rs,s=>by
   simp only[replay,ZdS]
   rw[Zc8 (R:=rs)]
   cases h:ZdS p l rs with
   | some v=>rfl
   | none =>
     simp only
     by_cases hp:p r.i=true
     ·rw[if_pos hp,if_pos hp,ZoP]
     ·rw[if_neg hp,if_neg hp]
theorem Zd7{p:Nat→Bool}:∀ {R:List Rc} {s:St},(replay p R s).nt=s.nt∧(replay p R s).nx=s.nx∧(replay p R s).df=s.df∧(replay p R s).mv=s.mv
 | [],_=>⟨rfl,rfl,rfl,rfl⟩
 | r::rs,s=>by
   have h:=Zd7 (p:=p) (R:=rs) (s:=if p r.i then r.app s else s)
   have e:(if p r.i then r.app s else s).nt=s.nt∧(if p r.i then r.app s else s).nx=s.nx∧(if p r.i then r.app s else s).df=s.df∧(if p r.i then r.app s else s).mv=s.mv:=by
    split
    ·cases s;exact⟨rfl,rfl,rfl,rfl⟩
    ·exact⟨rfl,rfl,rfl,rfl⟩
   exact⟨h.1.trans e.1,h.2.1.trans e.2.1,h.2.2.1.trans e.2.2.1,h.2.2.2.trans e.2.2.2⟩
theorem Zfu{p q:Nat→Bool}{l:Nat}:∀ {R:List Rc},(∀ r∈R,∀ o,Zs l r.ed=some o→p r.i=q r.i)→ZdS p l R=ZdS q l R
 | [],_=>rfl
 | r::rs,h=>by
   simp only[ZdS]
   rw[Zfu (R:=rs) (fun r' hr'=>h r' (List.mem_cons_of_mem _ hr'))]
   have h0:=h r (by simp)
   cases hed:Zs l r.ed with
   | none=>simp
   | some x=>rw[h0 x hed]
theorem ZfK{p q:Nat→Bool}{t:Nat}:∀ {R:List Rc},(∀ r∈R,r.dst=some t→p r.i=q r.i)→Zee p t R=Zee q t R
 | [],_=>rfl
 | r::rs,h=>by
   simp only[Zee]
   rw[ZfK (R:=rs) (fun r' hr'=>h r' (List.mem_cons_of_mem _ hr'))]
   by_cases hk:r.dst=some t
   ·rw[h r (by simp) hk]
   ·rw[if_neg (fun h=>hk h.2),if_neg (fun h=>hk h.2)]
theorem Rel.congr{cx:Cx}{s s':St}{a:Act}{E:Env}(r:Zcw P cx s a E)(ht:∀ t,Zbr t s'.tmps=Zbr t s.tmps)(ho:∀ l,Zs l s'.objs=Zs l s.objs)(hnt:s'.nt=s.nt)(hdf:s'.df=s.df)(hmv:s'.mv=s.mv)(hf:∀ l,s'.nx≤l→E.loc l=none):Zcw P cx s' a E:=by
 have tr:∀ l o,Zs l s'.objs=some o→∃ o1 L,Zs l s.objs=some o1∧E.loc l=some L∧E.loc l=some L∧(∀ L,o.has L→o1.has L)∧(ZaA P E L o1→ZaA P E L o):=fun l o h=>by
  rw[ho] at h
  obtain⟨L,hL,_⟩:=r.good.at_ l o h
  exact⟨o,L,h,hL,hL,fun _ h=>h,fun h=>h⟩
 exact⟨r.good.sub rfl rfl tr,hf,by rw[hmv];exact r.step.swap tr (fun l hl=>by rw[ho] at hl;exact hl),r.drawn,by rw[hnt];exact r.size,by rw[hdf];exact r.df,fun t=>by rw[ht];exact r.rep t⟩
end
section
variable {P:Program} {τ:Zae} {κ:ZY} {φ:Nat→Option FX}
mutual
def V.ks:V→List Nat
 | .fn _ a b=>ZhY (ksL a) (ksL b)
 | .agg cs=>ksL cs
 | .tup cs=>ksL cs
 | .er cs=>ksL cs
 | .when _ v=>V.ks v
 | .opt _ v=>V.ks v
 | .ref k _=>[k]
 | .rref k _ _=>[k]
 | .osl k=>[k]
 | .osp k _ _=>[k]
 | .map k=>[k]
 | .yl k=>[k]
 | .bsl k _=>[k]
 | _=>[]
def ksL:List V→List Nat
 | []=>[]
 | v::r=>ZhY (V.ks v) (ksL r)
end
def ZnC(objs:Zaf):List Nat→Zaf
 | []=>[]
 | l::r=>match Zs l objs with
   | some o=>(l,o)::ZnC objs r
   | none=>ZnC objs r
def Zky(objs:Zaf):List Nat→List Nat
 | []=>[]
 | l::r=>match Zs l objs with
   | some (.box cs) | some (.vrow _ _ cs _)=>ZhY (ksL cs) (Zky objs r)
   | _=>Zky objs r
def Zvo(op:Op)(objs:Zaf)(ks:List Nat):List Nat:=match op with
 | .load .. | .fieldAddr .. | .indexAddr ..=>ks
 | _=>match ZhY (Zky objs ks) ks with
   | k1=>ZhY (Zky objs k1) k1
theorem Zh6{objs:Zaf}{l:Nat}{o:Obj}:∀ {ks:List Nat},Zs l (ZnC objs ks)=some o→l∈ks∧Zs l objs=some o
 | [],h=>by cases h
 | k::r,h=>by
   simp only[ZnC] at h
   split at h
   ·rename_i p hp
    rw[Zk] at h
    split at h
    ·rename_i e;subst e;cases h;exact⟨by simp,hp⟩
    ·have:=Zh6 h;exact⟨List.mem_cons_of_mem _ this.1,this.2⟩
   ·have:=Zh6 h;exact⟨List.mem_cons_of_mem _ this.1,this.2⟩
def Zsd(T:List (Nat×List Nat))(ds:List (Nat×Nat))(i:Nat)(base cur:List (Nat×V))(t:Nat):V:=match ZqI t ds with
 | none=>Zbr t base
 | some j=>match ZdT j (ZeV i T) with
   | true=>Zbr t cur
   | false=>match Nat.beq j i with
     | true=>Zbr t base
     | false=>match ZdT i (ZeV j T) with
       | true=>Zbr t base
       | false=>.any
def Zm4(T:List (Nat×List Nat))(ds:List (Nat×Nat))(i:Nat)(base cur:List (Nat×V)):List Operand→List (Nat×V)
 | []=>[]
 | .tmp t::r=>(t,Zsd T ds i base cur t)::Zm4 T ds i base cur r
 | _::r=>Zm4 T ds i base cur r
theorem Zh8{T:List (Nat×List Nat)}{ds:List (Nat×Nat)}{i:Nat}{base cur:List (Nat×V)}{t:Nat}:∀ {l:List Operand},Zbr t (Zm4 T ds i base cur l)=Zsd T ds i base cur t∨Zbr t (Zm4 T ds i base cur l)=.any
 | []=>.inr rfl
 | x::r=>by
   cases x with
   | tmp u =>
     simp only[Zm4,Z5]
     split
     ·rename_i e;subst e;exact .inl rfl
     ·exact Zh8 (l:=r)
   | _=>exact Zh8 (l:=r)
def Zss(op:Op)(out:Out):Out:=match op with
 | .buildSlice _ (_+1) _=>match out with
   | ⟨ob,.osl k,some (l,.row T xs,false)⟩=>match Nat.beq k l with
     | true=>⟨ob,.d (.sl T) xs,some (l,.dead,false)⟩
     | false=>out
   | o=>o
 | _=>out
theorem Zqa(op:Op)(out:Out):(Zss op out).ob=out.ob:=by
 unfold Zss
 split
 ·split
  ·split<;>rfl
  ·rfl
 ·rfl
theorem Zn8{r:Option Nat}{o:Oper}{a:Act}{E:Env}{objs:Zaf}{out:Out}(op:Op)(h:Did P r o a E objs out):Did P r o a E objs (Zss op out):=by
 unfold Zss
 split
 ·split
  ·rename_i ob k l T xs
   split
   ·rename_i hk
    have hk:=Nat.eq_of_beq_eq_true hk
    subst hk
    intro next Q hn
    refine h next Q (fun E' v g st hdr hv=>?_)
    have ho:Zs k ((k,Obj.row T xs)::objs)=some (.row T xs):=by rw[Zk,if_pos rfl]
    obtain⟨L,hL,_⟩:=g.at_ k _ ho
    obtain⟨g2,s2⟩:=g.still ho hL
    have hr:=Zik g ho hL rfl (v:=.osl k) rfl hv
    simp only[frz,Nat.beq_refl] at hr
    have tr : ∀ l' o, Zs l' ((k, Obj.dead) :: objs) = some o → ∃ o1 L', Zs l' ((k, Obj.dead) :: (k, .row T xs) :: objs) = some o1 ∧ (E'.still L.b ((Obj.row T xs).has L)).loc l' = some L' ∧ (E'.still L.b ((Obj.row T xs).has L)).loc l' = some L' ∧ (∀ L, o.has L → o1.has L) ∧
     (ZaA P (E'.still L.b ((Obj.row T xs).has L)) L' o1→ZaA P (E'.still L.b ((Obj.row T xs).has L)) L' o):=by
     intro l' o h
     have:Zs l' ((k,Obj.dead)::(k,.row T xs)::objs)=some o:=by
      rw[Zk] at h ⊢
      split at h
      ·rename_i e;rw[if_pos e];exact h
      ·rename_i e;rw[if_neg e,Zk,if_neg e];exact h
     obtain⟨L',hL',_⟩:=g2.at_ l' o this
     exact⟨o,L',this,hL',hL',fun _ h=>h,fun h=>h⟩
    refine hn (E'.still L.b ((Obj.row T xs).has L)) v (g2.sub rfl rfl tr) (Zcm.swap (P:=P) (by simpa[moved,edit] using st.trans s2) tr (fun l' hl'=>?_)) hdr hr
    obtain⟨h1,h2⟩:=Zav hl'
    rw[Zk,if_neg (Ne.symm h1),Zk,if_neg (Ne.symm h1)];exact h2
   ·exact h
  ·exact h
 ·exact h
def edM(op:Op)(os:Zaf)(n:Nat)(v:V):Option (Nat×Obj×Bool)→Option (V×Zaf)
 | none=>some (v,[])
 | some (l,o,false)=>match Nat.beq l n with
   | true=>some (v,[(l,o)])
   | false=>match Zs l os with
     | some _=>some (v,[(l,o)])
     | none=>none
 | some (l,o,true)=>match op with
   | .call { callee:=.builtin .append,.. }=>match o with
     | .row T zs=>some (.osl n,[(n,.row T zs),(l,.dead)])
     | _=>none
   | .call { callee:=.value _,.. }=>match o with
     | .row T zs=>some (.osl n,[(n,.row T zs),(l,.dead)])
     | _=>none
   | _=>none
def Zwy:List Nat→Zaf→List (Nat×V)→Option (List (Nat×V)×Zaf×Zaf)
 | [],os,tm=>some (tm,os,[])
 | k::r,os,tm=>match Zs k os with
   | some o=>match Zwy r ((k,.dead)::os) (Zcr (frz k o) tm) with
     | some (tm',os',ds)=>some (tm',os',ds++[(k,.dead)])
     | none=>none
   | none=>none
def ZwE(τ:Zae)(κ:ZY)(op:Op)(tm:List (Nat×V))(os:Zaf)(n:Nat):Option (Option Prop×V×Zaf):=match Zwy (Zph τ κ op tm os) os tm with
 | none=>none
 | some (tm',os',ds)=>match Zt5 τ κ op tm' os' n with
   | none=>none
   | some out=>match Zss op out with
     | ⟨ob,v,ed⟩=>match edM op os' n v ed with
       | none=>none
       | some (v',es)=>some (ob,v',es++ds)
def Zxn(P:Program)(r:Option Nat)(o:Oper)(a:Act)(E:Env)(objs:Zaf)(v:V)(es:Zaf):Prop :=
 ∀ (next:Act→World→Prop) (Q:Zji),(∀ E' u,Z0 P E' (es++objs)→Zcm E objs E' (es++objs) []→E.w.drawn≤E'.w.drawn→Rep P E' v u→next (a.put o.dst u) E'.w)→o.wpIn (fz r) 0 P a E.w next Q
theorem Sub.cons{os objs:Zaf}(h:Sub os objs)(k:Nat)(o:Obj):Sub ((k,o)::os) ((k,o)::objs):=fun l x hx=>by
 rw[Zk] at hx ⊢
 split at hx
 ·rename_i e;rw[if_pos e];exact hx
 ·rename_i e;rw[if_neg e];exact h l x hx
theorem Zqx {ρ : Operand → Value} {ops : List Operand} (hρ : ∀ x, (∃ t, x = .tmp t) ∨ ∀ E tm, Rep P E (evV tm x) (ρ x)) : ∀ {ks : List Nat} {os objs : Zaf} {tm tm' : List (Nat × V)} {os' ds : Zaf} {E : Env}, Zwy ks os tm = some (tm', os', ds) → Sub os objs → Z0 P E objs → (∀ x ∈ ops, Rep P E (evV tm x) (ρ x)) →
 ∃ E',E'.w=E.w∧E'.loc=E.loc∧Z0 P E' (ds++objs)∧Zcm E objs E' (ds++objs) []∧Sub os' (ds++objs)∧(∀ x∈ops,Rep P E' (evV tm' x) (ρ x))∧(∀ l x,Zs l ds=some x→∃ y,Zs l os=some y)∧(∀ l x,Zs l os'=some x→∃ y,Zs l os=some y)
 | [],os,objs,tm,tm',os',ds,E,h,hs,g,hr=>by
   cases h
   exact⟨E,rfl,rfl,g,.refl _ _ _,hs,hr,fun l x h=>(by cases h),fun l x h=>⟨x,h⟩⟩
 | k::r,os,objs,tm,tm',os',ds,E,h,hs,g,hr=>by
   simp only[Zwy] at h
   split at h
   ·rename_i o ho
    split at h
    ·rename_i tm2 os2 ds2 h2
     cases h
     obtain⟨L,hL,_⟩:=g.at_ k o (hs k o ho)
     obtain⟨g1,s1⟩:=g.still (hs k o ho) hL
     have hx:Ext E (E.still L.b (o.has L)) []:=⟨fun b hs=>⟨.inl hs,rfl⟩,fun j K _ hK=>hK⟩
     have hr1:∀ x∈ops,Rep P (E.still L.b (o.has L)) (evV (Zcr (frz k o) tm) x) (ρ x):=fun x hx'=>by
      rcases hρ x with ⟨t,rfl⟩ | h
      ·show Rep P _ (Zbr t (Zcr _ tm)) _
       rw[Zch,ZcB]
       exact Zb7 hx.S (fun v c hr h=>Zik g (hs k o ho) hL rfl hr h) (hr _ hx')
      ·exact h _ _
     obtain⟨E',e1,e2,g2,s2,k1,k2,k3,k4⟩:=Zqx hρ h2 (hs.cons k .dead) g1 hr1
     have ee:ds2++(k,Obj.dead)::objs=ds2++[(k,.dead)]++objs:=by simp
     rw[ee] at g2 s2 k1
     have back:∀ l,(∃ y,Zs l ((k,Obj.dead)::os)=some y)→∃ y,Zs l os=some y:=fun l ⟨y,hy⟩=>by
      rw[Zk] at hy
      split at hy
      ·rename_i e;subst e;exact⟨o,ho⟩
      ·exact⟨y,hy⟩
     refine⟨E',e1,e2,g2,by simpa using s1.trans s2,k1,k2,fun l x hl=>?_,fun l x hl=>back l (k4 l x hl)⟩
     rw[Zcx] at hl
     split at hl
     ·rename_i y hy;exact back l (k3 l y hy)
     ·rw[Zk] at hl
      split at hl
      ·rename_i e;subst e;exact⟨o,ho⟩
      ·cases hl
    ·cases h
   ·cases h
theorem Zn0 (hτ : Zbb P τ) (hκ : Zad P κ) {r : Option Nat} {o : Oper} {tm : List (Nat × V)} {os objs : Zaf} {n : Nat} {ob : Option Prop} {v : V} {es : Zaf} {E : Env} {a : Act} (h : ZwE τ κ o.op tm os n = some (ob, v, es)) (hs : Sub os objs) (ho : okP ob) (g : Z0 P E objs)
 (hf:E.loc n=none) (hr:∀ x∈o.op.operands,Rep P E (evV tm x) (a.eval x)):Zxn P r o a E objs v es∧(∀ l x,Zs l es=some x→l=n∨∃ y,Zs l os=some y):=by
 unfold ZwE at h
 split at h
 ·cases h
 ·rename_i tm' os' ds hfz
  have hρ:∀ x,(∃ t,x=Operand.tmp t)∨∀ E tm,Rep P E (evV tm x) (a.eval x):=fun x=>by
   cases x with
   | tmp t=>exact .inl ⟨t,rfl⟩
   | const v=>exact .inr fun E tm=>Ze8 v
   | global g=>exact .inr fun E tm=>.any _
   | func f=>exact .inr fun E tm=>.fn rfl rfl (fun j hj=>by simp at hj) (fun j hj=>by simp at hj)
  obtain⟨E1,e1,e2,g1,s1,k1,k2,k3,k4⟩:=Zqx (ops:=o.op.operands.toList) hρ hfz hs g (fun x hx=>hr x (Array.mem_toList_iff.1 hx))
  split at h
  ·cases h
  ·rename_i out he
   generalize hdat:Zss o.op out=out' at h
   obtain⟨ob',v0,ed⟩:=out'
   simp only at h
   split at h
   ·cases h
   ·rename_i v' es' hed
    cases h
    have hob:okP out.ob:=by rw[← Zqa o.op out,hdat];exact ho
    have hf1:E1.loc n=none:=by rw[e2];exact hf
    have hd0:=ZhA (r:=r) (a:=a) hτ hκ he k1 hob g1 hf1 (fun x hx=>k2 x (Array.mem_toList_iff.2 hx))
    have hd1:=Zn8 o.op hd0
    rw[hdat] at hd1
    have plain:∀ es',(ed=none∧es'=[]∨∃ l x,ed=some (l,x,false)∧es'=[(l,x)])→Zxn P r o a E objs v0 (es'++ds):=by
     intro es' hes next Q hn
     have:=hd1 next Q
     rw[e1] at this
     refine this (fun E' u g' st hdr hu=>hn E' u ?_ ?_ hdr hu)
     ·rcases hes with ⟨rfl,rfl⟩ | ⟨l,x,rfl,rfl⟩
      ·exact g'
      ·exact g'
     ·rcases hes with ⟨rfl,rfl⟩ | ⟨l,x,rfl,rfl⟩
      ·simpa[edit,moved] using s1.trans st
      ·simpa[edit,moved] using s1.trans st
    have keys:∀ es',(∀ l x,Zs l es'=some x→l=n∨∃ y,Zs l os'=some y)→∀ l x,Zs l (es'++ds)=some x→l=n∨∃ y,Zs l os=some y:=fun es' hk l x hx=>by
     rw[Zcx] at hx
     split at hx
     ·rename_i y hy
      rcases hk l y hy with h | ⟨z,hz⟩
      ·exact .inl h
      ·exact .inr (k4 l z hz)
     ·exact .inr (k3 l x hx)
    unfold edM at hed
    split at hed
    ·cases hed
     exact⟨plain [] (.inl ⟨rfl,rfl⟩),keys [] (fun l x h=>by cases h)⟩
    ·rename_i l x
     split at hed
     ·rename_i hb
      cases hed
      exact⟨plain _ (.inr ⟨l,x,rfl,rfl⟩),keys _ (fun l' x' h=>by
       rw[Zk] at h
       split at h
       ·rename_i e;rw[← e];exact .inl (Nat.eq_of_beq_eq_true hb)
       ·cases h)⟩
     ·split at hed
      ·rename_i y hy
       cases hed
       exact⟨plain _ (.inr ⟨l,x,rfl,rfl⟩),keys _ (fun l' x' h=>by
        rw[Zk] at h
        split at h
        ·rename_i e;rw[← e];exact .inr ⟨y,hy⟩
        ·cases h)⟩
      ·cases hed
    ·rename_i l x
     obtain⟨dst,op,ty,po,af,guard⟩:=o
     split at hed
     ·rename_i args tys hop
      split at hed
      ·rename_i T zs
       cases hed
       simp only at hop
       subst hop
       have hdo:out=⟨ob,v0,some (l,.row T zs,true)⟩:=by rw[← hdat];rfl
       subst hdo
       simp only[Zt5,eff] at he
       obtain⟨al⟩:=args
       obtain⟨tl⟩:=tys
       simp only[Zgz] at he
       split at he
       ·split at he
        ·rename_i t u _ x y e3
         obtain⟨b,c,rfl,rfl,rfl⟩:=Zer e3
         have rb:=k2 b (by simp[Op.operands,Call.operands])
         have rc:=k2 c (by simp[Op.operands,Call.operands])
         obtain⟨rfl,L,xs,c1,c2,w,K,row,c3,c4,c5,c6,c7⟩:=Zjk (ty:=ty) hτ he k1 hob g1 rb rc
         obtain⟨E',d1,d2,d3,d4⟩:=g1.remake c1 c2 hf1 c3 c4 c5 c6
         refine⟨fun next Q hn=>⟨fun _ _=>trivial,?_⟩,keys _ (fun l' x' h=>?_)⟩
         ·rw[Oper.semAt_eq _ _ _ (fun c=>by simp)]
          have hrun:(execOp a.eval ⟨dst,.call { callee:=.builtin .append,args:=⟨[b,c]⟩,argTypes:=⟨[t,u]⟩ },ty,po,af,guard⟩).run P E.w=.ok (.value K.v) E'.w:=by
           have:execOp a.eval ⟨dst,.call { callee:=.builtin .append,args:=⟨[b,c]⟩,argTypes:=⟨[t,u]⟩ },ty,po,af,guard⟩=(do let v ← Builtin.append_ #[t,u] ty #[a.eval b,a.eval c];pure (Next.value v)):=by simp[execOp,resolve,invoke,builtin]
           rw[this,← e1,d1]
           simp[c7]
          rw[hrun]
          exact hn E' K.v (by simpa using d3) (by simpa using s1.trans d4) (by rw[← e1];exact Zgc _ _ _ _ (by rw[d1];exact c7)) (.osl d2)
         ·rw[Zk] at h
          split at h
          ·rename_i e;exact .inl e.symm
          ·rw[Zk] at h
           split at h
           ·rename_i e
            subst e
            refine .inr ?_
            unfold ZdL at he
            split at he
            ·split at he
             ·split at he
              ·split at he
               ·split at he
                ·cases he
                ·split at he
                 ·split at he
                  ·rename_i hcs _;cases he;exact⟨_,hcs⟩
                  ·cases he
                 ·cases he
                ·split at he
                 ·split at he
                  ·split at he
                   ·cases he
                   ·rename_i hcs _ _ _;cases he;exact⟨_,hcs⟩
                  ·cases he
                 ·cases he
                ·cases he
               ·cases he
              ·split at he
               ·split at he
                ·split at he
                 ·cases he
                 ·split at he
                  ·split at he
                   ·rename_i hcs _;cases he;exact⟨_,hcs⟩
                   ·cases he
                  ·cases he
                 ·cases he
                ·cases he
               ·cases he
             ·cases he
            ·cases he
           ·cases h
        ·cases he
       ·cases he
      ·cases hed
     ·rename_i x args tys hop
      split at hed
      ·rename_i T zs
       cases hed
       simp only at hop
       subst hop
       have hdo:out=⟨ob,v0,some (l,.row T zs,true)⟩:=by rw[← hdat];rfl
       subst hdo
       simp only[Zt5] at he
       split at he
       ·rename_i rc hrc
        obtain⟨gf,q1,q2,T0,q3⟩:=Zq8 hκ hrc he k1 hob g1 (k2 x (by simp[Op.operands,Call.operands])) (Zcf fun y hy=>k2 y (by simp only[Op.operands,Call.operands];simp[Array.mem_toList_iff.1 hy]))
        rcases q3 with ⟨_,_,q4,_⟩ | ⟨l',L,xs,zs',q0,hL,q4,q5,hc⟩
        ·cases q4
        ·obtain⟨rfl,hzz,_⟩:l=l'∧Obj.row T zs=Obj.row T0 zs'∧True:=by
          have:=Option.some.inj q5
          simp only[Prod.mk.injEq] at this
          exact⟨this.1,this.2.1,trivial⟩
         cases hzz
         refine⟨fun next Q hn=>?_,keys _ (fun l' x' h=>?_)⟩
         ·have hwp:=ZhW (r:=r) (o:=⟨dst,.call { callee:=.value x,args:=args,argTypes:=tys },ty,po,af,guard⟩) (a:=a) (E:=E1) rfl q1 q2 hc (next:=next) (Q:=Q) (by
           rintro e w2 ⟨K,rfl,row,c3,c4,c5,c6,c7⟩
           obtain⟨E',d1,d2,d3,d4⟩:=g1.remake (k1 _ _ q0) hL hf1 c3 c4 c5 c6
           refine⟨_,rfl,?_⟩
           rw[← d1]
           exact hn E' K.v (by simpa using d3) (by simpa using s1.trans d4) (by rw[← e1,d1];exact c7) (.osl d2))
          rw[e1] at hwp
          exact hwp
         ·rw[Zk] at h
          split at h
          ·rename_i e;exact .inl e.symm
          ·rw[Zk] at h
           split at h
           ·rename_i e;subst e;exact .inr ⟨_,q0⟩
           ·cases h
       ·split at he
        ·unfold Zod at he
         split at he
         ·split at he
          ·split at he<;>cases he
          ·cases he
         ·split at he
          ·split at he<;>cases he
          ·cases he
        ·split at he<;>cases he
      ·cases hed
     ·cases hed
def edG(n:Nat):Option (Nat×Obj×Bool)→Option Zaf
 | none=>some []
 | some (l,.dead,false)=>match Nat.beq l n with
   | true=>some [(l,.dead)]
   | false=>none
 | _=>none
def Zvk(τ:Zae)(κ:ZY)(dec g:Bool)(i:Nat)(dst:Option Nat)(op:Op)(tm:List (Nat×V))(os:Zaf)(ks:List Nat)(n:Nat):Option (Option Prop×Rc):=match dec with
 | false=>none
 | true=>match g with
   | true=>match ZwE τ κ op (ZqG op tm) os n with
     | some (ob,v,es)=>some (ZgK true (Zg5 op tm) ob,⟨i,dst,v,es,Zl9 es++(V.ks v++ks)⟩)
     | none=>none
   | false=>some (none,⟨i,dst,.when false (.d .bool false),[],ks⟩)
theorem Zuh{dec g:Bool}{i:Nat}{dst:Option Nat}{op:Op}{tm:List (Nat×V)}{os:Zaf}{ks:List Nat}{n:Nat}{ob:Option Prop}{rc:Rc}(h:Zvk τ κ dec g i dst op tm os ks n=some (ob,rc)):rc.i=i∧rc.dst=dst:=by
 unfold Zvk at h
 split at h
 ·cases h
 ·split at h
  ·split at h
   ·cases h;exact⟨rfl,rfl⟩
   ·cases h
  ·cases h;exact⟨rfl,rfl⟩
def Zvs(τ:Zae)(κ:ZY)(dec:Bool)(T:List (Nat×List Nat))(ds:List (Nat×Nat))(ops:List Oper)(n0:Nat)(base:List (Nat×V))(i:Nat)(o:Oper)(cur:St):Option (Option Prop×Rc):=match o,cur with
 | ⟨dst,op,_,_,_,guard⟩,⟨_,tmps,objs,_,_,_,_,_⟩=>match Zm4 T ds i base tmps op.operands.toList with
   | tm=>match Zvo op objs (ksL (ZbO tm op.operands.toList)) with
     | ks=>match ZnC objs ks with
       | os=>match guard with
         | none=>match ZwE τ κ op tm os (n0+i) with
           | some (ob,v,es)=>some (ob,⟨i,dst,v,es,Zl9 es++(V.ks v++ks)⟩)
           | none=>none
         | some (j,want)=>match Zvv ops j with
           | none=>none
           | some gd=>match Zig want (Zsd T ds i base tmps gd) with
             | none=>none
             | some g=>match Zt5 τ κ op (ZqG op tm) os (n0+i) with
               | some out=>match Zss op out with
                 | ⟨ob,v,ed⟩=>match edG (n0+i) ed with
                   | some es=>some (ZgK g (Zg5 op tm) ob,⟨i,dst,.when g v,es,Zl9 es++(V.ks v++ks)⟩)
                   | none=>Zvk τ κ dec g i dst op tm os ks (n0+i)
               | none=>Zvk τ κ dec g i dst op tm os ks (n0+i)
def Zkg(τ:Zae)(κ:ZY)(dec:Bool)(T:List (Nat×List Nat))(ds:List (Nat×Nat))(ops:List Oper)(n0:Nat)(base:List (Nat×V)):Nat→List Oper→St→Option (List (Option Prop)×List Rc×St)
 | _,[],s=>some ([],[],s)
 | i,o::r,s=>match Zvs τ κ dec T ds ops n0 base i o s with
   | none=>none
   | some (ob,rc)=>match rc.app s with
     | ⟨nt,tmps,objs,nx,df,wr,di,mv⟩=>match Zkg τ κ dec T ds ops n0 base (i+1) r ⟨nt,tmps,objs,nx,df,wr,di,mv⟩ with
       | none=>none
       | some (obs,R,s')=>some (ob::obs,rc::R,s')
def Zw2:List (Option Prop)→Prop→Prop
 | [],k=>k
 | ob::r,k=>ZuV ob (Zw2 r k)
theorem ZoK{k:Prop}:∀ {l:List (Option Prop)},Zw2 l k→(∀ ob∈l,okP ob)∧k
 | [],h=>⟨fun ob hb=>by simp at hb,h⟩
 | ob::r,h=>by
   obtain⟨h1,h2⟩:=Zla h
   obtain⟨h3,h4⟩:=ZoK h2
   exact⟨fun q hq=>(List.mem_cons.1 hq).elim (fun e=>e▸h1) (h3 q),h4⟩
theorem ZdW{p:Nat→Bool}:∀ {A B:List Rc} {s:St},replay p (A++B) s=replay p B (replay p A s)
 | [],_,_=>rfl
 | r::rs,B,s=>by simp only[List.cons_append,replay];exact ZdW
theorem ZfB{p:Nat→Bool}:∀ {B:List Rc} {s:St},(∀ r∈B,p r.i=false)→replay p B s=s
 | [],_,_=>rfl
 | r::rs,s,h=>by
   simp only[replay]
   rw[h r (by simp)]
   exact ZfB fun r' hr'=>h r' (List.mem_cons_of_mem _ hr')
theorem ZcG{p q:Nat→Bool}:∀ {B:List Rc} {s:St},(∀ r∈B,p r.i=q r.i)→replay p B s=replay q B s
 | [],_,_=>rfl
 | r::rs,s,h=>by
   simp only[replay]
   rw[h r (by simp)]
   exact ZcG fun r' hr'=>h r' (List.mem_cons_of_mem _ hr')
theorem Zsf{dec:Bool}{T:List (Nat×List Nat)}{ds:List (Nat×Nat)}{ops:List Oper}{n0:Nat}{base:List (Nat×V)}{i:Nat}{o:Oper}{cur:St}{ob:Option Prop}{rc:Rc}(h:Zvs τ κ dec T ds ops n0 base i o cur=some (ob,rc)):rc.i=i∧rc.dst=o.dst:=by
 obtain⟨dst,op,ty,po,af,guard⟩:=o
 cases cur
 simp only[Zvs] at h
 split at h
 ·split at h
  ·cases h;exact⟨rfl,rfl⟩
  ·cases h
 ·split at h
  ·cases h
  ·split at h
   ·cases h
   ·split at h
    ·split at h
     ·cases h;exact⟨rfl,rfl⟩
     ·exact Zuh h
    ·exact Zuh h
theorem Zj8 {dec : Bool} {T : List (Nat × List Nat)} {ds : List (Nat × Nat)} {ops : List Oper} {n0 : Nat} {base : List (Nat × V)} {s0 : St} : ∀ {l : List Oper} {i : Nat} {cur send : St} {R0 R' : List Rc} {obs : List (Option Prop)},
 Zkg τ κ dec T ds ops n0 base i l cur=some (obs,R',send)→(∀ r∈R0,r.i < i)→cur=replay (fun _=>true) R0 s0 →
 R'.Pairwise (fun a b=>a.i < b.i)∧(∀ r∈R',i≤r.i∧r.i < i+l.length)∧send=replay (fun _=>true) (R0++R') s0 ∧
  ∀ j o,l[j]?=some o→∃ ob rc,Zvs τ κ dec T ds ops n0 base (i+j) o (replay (fun k=>decide (k < i+j)) (R0++R') s0)=some (ob,rc)∧ob∈obs∧rc∈R'
 | [],i,cur,send,R0,R',obs,h,h1,h2=>by
   simp only[Zkg,Option.some.injEq,Prod.mk.injEq] at h
   obtain⟨rfl,rfl,rfl⟩:=h
   exact⟨.nil,fun r hr=>by simp at hr,by simpa using h2,fun j o hj=>by simp at hj⟩
 | o::r,i,cur,send,R0,R',obs,h,h1,h2=>by
   simp only[Zkg] at h
   split at h
   ·cases h
   ·rename_i ob rc hrc
    split at h
    ·cases h
    ·rename_i obs2 R2 s2 hg
     cases h
     have hi:=(Zsf hrc).1
     have ih:=Zj8 (R0:=R0++[rc]) hg (fun r hr=>by
      rcases List.mem_append.1 hr with hr | hr
      ·exact Nat.lt_succ_of_lt (h1 r hr)
      ·simp at hr;subst hr;omega) (by
      rw[ZdW,← h2];rfl)
     obtain⟨k0,k1,k2,k3⟩:=ih
     have e:R0++[rc]++R2=R0++rc::R2:=by simp
     rw[e] at k2 k3
     refine⟨List.pairwise_cons.2 ⟨fun r' hr'=>by have:=k1 r' hr';omega,k0⟩,fun r' hr'=>?_,k2,fun j o' hj=>?_⟩
     ·rcases List.mem_cons.1 hr' with rfl | hr'
      ·simp;omega
      ·have:=k1 r' hr';simp;omega
     ·cases j with
      | zero =>
        simp at hj;subst hj
        refine⟨ob,rc,?_,by simp,by simp⟩
        have:replay (fun k=>decide (k < i+0)) (R0++rc::R2) s0=cur:=by
         rw[ZdW,ZfB,h2]
         ·exact ZcG fun r' hr'=>by simpa using h1 r' hr'
         ·intro r' hr'
          rcases List.mem_cons.1 hr' with rfl | hr'
          ·simp;omega
          ·have:=k1 r' hr';simp;omega
        rw[this];exact hrc
      | succ j =>
        obtain⟨ob',rc',m1,m2,m3⟩:=k3 j o' (by simpa using hj)
        rw[show i+1+j=i+(j+1) from by omega] at m1
        exact⟨ob',rc',m1,List.mem_cons_of_mem _ m2,List.mem_cons_of_mem _ m3⟩
def Zpv:Zaf→List Nat→Bool
 | [],_=>true
 | (l,_)::r,ks=>match ZdT l ks with
   | true=>false
   | false=>Zpv r ks
theorem ZnV{l:Nat}{o:Obj}{ks:List Nat}:∀ {e:Zaf},Zpv e ks=true→Zs l e=some o→l∉ks
 | [],_,h=>by cases h
 | (k,p)::r,hd,h=>by
   simp only[Zpv] at hd
   split at hd
   ·cases hd
   ·rename_i hk
    rw[Zk] at h
    split at h
    ·rename_i e;subst e;exact fun hm=>by rw[Zbt.2 hm] at hk;cases hk
    ·exact ZnV hd h
def Znu(T:List (Nat×List Nat))(r:Rc):List Rc→Bool
 | []=>true
 | q::l=>match ZdT r.i (ZeV q.i T) with
   | true=>Znu T r l
   | false=>match ZdT q.i (ZeV r.i T) with
     | true=>Znu T r l
     | false=>match Zpv r.ed q.ks with
       | true=>match Zpv q.ed r.ks with
         | true=>Znu T r l
         | false=>false
       | false=>false
def Zqr(T:List (Nat×List Nat)):List Rc→Bool
 | []=>true
 | r::l=>match Znu T r l with
   | true=>Zqr T l
   | false=>false
def Zib(nt:Nat)(ds:List (Nat×Nat)):List Rc→Bool
 | []=>true
 | ⟨i,some d,_,_,_⟩::l=>match ZqI d ds with
   | some j=>match Nat.beq j i with
     | true=>match Nat.blt d nt with
       | true=>Zib nt ds l
       | false=>false
     | false=>false
   | none=>false
 | _::l=>Zib nt ds l
theorem ZiX{T:List (Nat×List Nat)}{r:Rc}:∀ {l:List Rc},Znu T r l=true→∀ q∈l,r.i∈ZeV q.i T∨q.i∈ZeV r.i T∨(Zpv r.ed q.ks=true∧Zpv q.ed r.ks=true)
 | [],_,q,h=>by simp at h
 | q'::l,h,q,hq=>by
   simp only[Znu] at h
   have key:(q=q'→r.i∈ZeV q.i T∨q.i∈ZeV r.i T∨(Zpv r.ed q.ks=true∧Zpv q.ed r.ks=true))→Znu T r l=true→r.i∈ZeV q.i T∨q.i∈ZeV r.i T∨(Zpv r.ed q.ks=true∧Zpv q.ed r.ks=true) :=
    fun h1 h2=>(List.mem_cons.1 hq).elim h1 (ZiX h2 q)
   split at h
   ·rename_i h1;exact key (fun e=>.inl (e▸Zbt.1 h1)) h
   ·split at h
    ·rename_i h1;exact key (fun e=>.inr (.inl (e▸Zbt.1 h1))) h
    ·split at h
     ·rename_i h1
      split at h
      ·rename_i h2;exact key (fun e=>.inr (.inr (e▸⟨h1,h2⟩))) h
      ·cases h
     ·cases h
theorem Zi2{T:List (Nat×List Nat)}:∀ {l:List Rc},Zqr T l=true→∀ r∈l,∀ q∈l,r=q∨r.i∈ZeV q.i T∨q.i∈ZeV r.i T∨(Zpv r.ed q.ks=true∧Zpv q.ed r.ks=true)
 | [],_,r,h,_,_=>by simp at h
 | x::l,h,r,hr,q,hq=>by
   simp only[Zqr] at h
   split at h
   ·rename_i h1
    rcases List.mem_cons.1 hr with hr1 | hr1
    ·rcases List.mem_cons.1 hq with hq1 | hq1
     ·exact .inl (hr1.trans hq1.symm)
     ·rw[hr1];exact .inr (ZiX h1 q hq1)
    ·rcases List.mem_cons.1 hq with hq1 | hq1
     ·rw[hq1]
      rcases ZiX h1 r hr1 with h | h | h
      ·exact .inr (.inr (.inl h))
      ·exact .inr (.inl h)
      ·exact .inr (.inr (.inr ⟨h.2,h.1⟩))
     ·exact Zi2 h r hr1 q hq1
   ·cases h
theorem Zcy{nt:Nat}{ds:List (Nat×Nat)}:∀ {l:List Rc},Zib nt ds l=true→∀ r∈l,∀ d,r.dst=some d→ZqI d ds=some r.i∧d < nt
 | [],_,r,h,_,_=>by simp at h
 | ⟨i,dst,v,ed,ks⟩::l,h,r,hr,d,hd=>by
   cases dst with
   | none =>
     simp only[Zib] at h
     rcases List.mem_cons.1 hr with rfl | hr
     ·cases hd
     ·exact Zcy h r hr d hd
   | some d' =>
     simp only[Zib] at h
     split at h
     ·rename_i j hj
      split at h
      ·rename_i h1
       split at h
       ·rename_i h2
        rcases List.mem_cons.1 hr with rfl | hr
        ·cases hd
         rw[hj,Nat.eq_of_beq_eq_true h1]
         exact⟨rfl,Nat.le_of_ble_eq_true h2⟩
        ·exact Zcy h r hr d hd
       ·cases h
      ·cases h
     ·cases h
end
section
variable {P:Program} {τ:Zae} {κ:ZY} {φ:Nat→Option FX}
theorem Zg7{p:Nat→Bool}{l:Nat}:∀ {A B:List Rc},ZdS p l (A++B)=(match ZdS p l B with | some o=>some o | none=>ZdS p l A)
 | [],B=>by simp only[List.nil_append,ZdS];split<;>simp_all
 | r::A,B=>by
   simp only[List.cons_append,ZdS]
   rw[Zg7 (A:=A)]
   cases h:ZdS p l B with
   | some o=>rfl
   | none=>rfl
theorem Zg6{p:Nat→Bool}{l:Nat}:∀ {A B:List Rc},Zee p l (A++B)=(match Zee p l B with | some o=>some o | none=>Zee p l A)
 | [],B=>by simp only[List.nil_append,Zee];split<;>simp_all
 | r::A,B=>by
   simp only[List.cons_append,Zee]
   rw[Zg6 (A:=A)]
   cases h:Zee p l B with
   | some o=>rfl
   | none=>rfl
theorem Zkh{p:Nat→Bool}{l:Nat}:∀ {A:List Rc},(∀ r∈A,∀ o,Zs l r.ed=some o→p r.i=false)→ZdS p l A=none
 | [],_=>rfl
 | r::A,h=>by
   simp only[ZdS]
   rw[Zkh (A:=A) (fun r' hr'=>h r' (List.mem_cons_of_mem _ hr'))]
   cases hed:Zs l r.ed with
   | none=>simp
   | some x=>simp[h r (by simp) x hed]
theorem ZdI{p:Nat→Bool}{t:Nat}:∀ {A:List Rc},(∀ r∈A,r.dst=some t→p r.i=false)→Zee p t A=none
 | [],_=>rfl
 | r::A,h=>by
   simp only[Zee]
   rw[ZdI (A:=A) (fun r' hr'=>h r' (List.mem_cons_of_mem _ hr'))]
   simp only
   rw[if_neg]
   rintro⟨h1,h2⟩
   rw[h r (by simp) h2] at h1;cases h1
def ZlX(L:Nat→Bool)(i:Nat):Nat→Bool:=fun j=>L j||decide (j=i)
theorem Zsy (hτ : Zbb P τ) (hκ : Zad P κ) {dec : Bool} {r : Option Nat} {cx : Cx} {ops : Array Oper} {T : List (Nat × List Nat)} (hT : PT ops T) {ds : List (Nat × Nat)} {n0 i : Nat} {o : Oper} {ob : Option Prop} {rc : Rc} {R : List Rc} {s0 : St}
 (hi:ops[i]?=some o) (hrc:Zvs τ κ dec T ds ops.toList n0 s0.tmps i o (replay (fun k=>decide (k < i)) R s0)=some (ob,rc)) (ho:okP ob) (hmem:rc∈R) (hsort:R.Pairwise fun a b=>a.i < b.i) (hp:Zqr T R=true) (hd:Zib s0.nt ds R=true)
 (hlt:∀ q∈R,q.i < ops.size) (hnx:s0.nx=n0+ops.size) {L:Nat→Bool} (hL:L i=false) (hdown:∀ q∈R,L q.i=true→∀ j∈ZeV q.i T,(∃ q'∈R,q'.i=j)→L j=true) (hpi:∀ j∈ZeV i T,(∃ q'∈R,q'.i=j)→L j=true)
 {a:Act} {E:Env} (hr:Zcw P cx (replay L R s0) a E) (hf:∀ q∈R,L q.i=false→E.loc (n0+q.i)=none) {Q:Zji} {K:Act→World→Prop}
 (hK:∀ a' E',Zcw P cx (replay (ZlX L i) R s0) a' E'→(∀ q∈R,ZlX L i q.i=false→E'.loc (n0+q.i)=none)→K a' E'.w):wpOpIn (fz r) 0 P ops Q i K a E.w:=by
 have hii:=(Zsf hrc).1
 have hdst:=(Zsf hrc).2
 have hilt:i < ops.size:=(Array.getElem?_eq_some_iff.1 hi).1
 have huniq:∀ q∈R,q.i=i→q=rc:=fun q hq e=>by
  rcases Zi2 hp q hq rc hmem with h | h | h | _
  ·exact h
  ·rw[hii] at h;have:=hT.lt i q.i hilt h;omega
  ·rw[e] at h;rw[hii] at h;have:=hT.lt i i hilt h;omega
  ·obtain⟨A,B,hAB⟩:=List.append_of_mem hmem
   rw[hAB] at hsort hq
   rw[List.pairwise_append] at hsort
   obtain⟨_,h2,h3⟩:=hsort
   rcases List.mem_append.1 hq with h | h
   ·have:=h3 q h rc (by simp);omega
   ·rcases List.mem_cons.1 h with h | h
    ·exact h
    ·have:=(List.pairwise_cons.1 h2).1 q h;omega
 obtain⟨A,B,hAB⟩:=List.append_of_mem hmem
 have hA:∀ q∈A,q.i < i:=fun q hq=>by
  rw[hAB,List.pairwise_append] at hsort
  have:=hsort.2.2 q hq rc (by simp);omega
 have hB:∀ q∈B,i < q.i:=fun q hq=>by
  rw[hAB,List.pairwise_append] at hsort
  have:=(List.pairwise_cons.1 hsort.2.1).1 q hq;omega
 have hord:∀ q∈R,∀ l x,Zs l q.ed=some x→l∈rc.ks→(decide (q.i < i))=L q.i∨q=rc:=fun q hq l x hed hl=>by
  rcases Zi2 hp q hq rc hmem with h | h | h | h
  ·exact .inr h
  ·rw[hii] at h
   have h1:=hT.lt i q.i hilt h
   have h2:=hpi q.i h ⟨q,hq,rfl⟩
   rw[h2];left;simpa using h1
  ·rw[hii] at h
   have h1:=hT.lt q.i i (hlt q hq) h
   left
   cases hLq:L q.i with
   | false=>simp;omega
   | true=>rw[hdown q hq hLq i h ⟨rc,hmem,hii⟩] at hL;cases hL
  ·exact absurd hl (ZnV h.1 hed)
 have hobj:∀ l∈rc.ks,Zs l (replay (fun k=>decide (k < i)) R s0).objs=Zs l (replay L R s0).objs:=fun l hl=>by
  rw[Zc8,Zc8,Zfu (p:=fun k=>decide (k < i)) (q:=L)]
  intro q hq x hed
  rcases hord q hq l x hed hl with h | h
  ·exact h
  ·subst h;rw[hii,hL];simp
 have hval:∀ t,Rep P E (Zsd T ds i s0.tmps (replay (fun k=>decide (k < i)) R s0).tmps t) (a.tmps.getD t undef):=fun t=>by
  have hrep:=hr.rep t
  rw[Zdh] at hrep
  unfold Zsd
  split
  ·rename_i hn
   rw[ZdI] at hrep
   ·exact hrep
   ·intro q hq hqd
    rw[(Zcy hd q hq t hqd).1] at hn;cases hn
  ·rename_i j hj
   have hq:∀ q∈R,q.dst=some t→q.i=j:=fun q hq hqd=>by
    have:=(Zcy hd q hq t hqd).1
    rw[hj] at this;cases this;rfl
   split
   ·rename_i hm
    rw[Zdh,ZfK (p:=fun k=>decide (k < i)) (q:=L)]
    ·exact hrep
    ·intro q hqm hqd
     have e:=hq q hqm hqd
     rw[e]
     have hm:=Zbt.1 hm
     rw[hpi j hm ⟨q,hqm,e⟩]
     have:=hT.lt i j hilt hm
     simpa using this
   ·split
    ·rename_i he
     have he:=Nat.eq_of_beq_eq_true he
     rw[ZdI] at hrep
     ·exact hrep
     ·intro q hqm hqd
      rw[hq q hqm hqd,he];exact hL
    ·split
     ·rename_i hm
      have hm:=Zbt.1 hm
      rw[ZdI] at hrep
      ·exact hrep
      ·intro q hqm hqd
       rw[hq q hqm hqd]
       cases hLj:L j with
       | false=>rfl
       | true =>
         have e:=hq q hqm hqd
         have:=hdown q hqm (by rw[e];exact hLj) i (by rw[e];exact hm) ⟨rc,hmem,hii⟩
         rw[hL] at this;cases this
     ·exact .any _
 have hdlt:∀ d,o.dst=some d→d < a.tmps.size:=fun d hdd=>by
  have:=(Zcy hd rc hmem d (hdst.trans hdd)).2
  have h1:a.tmps.size=s0.nt:=hr.size.trans (Zd7 (p:=L) (R:=R) (s:=s0)).1
  rw[h1];exact this
 have behind : ∀ E' u, Z0 P E' (rc.ed ++ (replay L R s0).objs) → Zcm E (replay L R s0).objs E' (rc.ed ++ (replay L R s0).objs) [] → E.w.drawn ≤ E'.w.drawn → Rep P E' rc.v u →
  (∀ l x,Zs l rc.ed=some x→l=n0+i∨∃ y,Zs l (replay L R s0).objs=some y)→(∀ l x,Zs l rc.ed=some x→l∈rc.ks)→K (a.put o.dst u) E'.w:=by
  intro E' u g st hdr hu hkey hks
  obtain⟨e1,e2,e3,e4⟩:=Zd7 (p:=L) (R:=R) (s:=s0)
  obtain⟨f1,f2,f3,f4⟩:=Zd7 (p:=ZlX L i) (R:=R) (s:=s0)
  have hnone:∀ l,E.loc l=none→l≠n0+i→E'.loc l=none:=fun l hl hne=>by
   have h1:Zs l (replay L R s0).objs=none:=by
    cases h:Zs l (replay L R s0).objs with
    | none=>rfl
    | some x=>obtain⟨K,hK,_⟩:=hr.good.at_ l x h;rw[hl] at hK;cases hK
   rw[st.dom l ?_]
   ·exact hl
   ·rw[Zcx]
    cases hed:Zs l rc.ed with
    | none=>exact h1
    | some x =>
      rcases hkey l x hed with h | ⟨z,hz⟩
      ·exact absurd h hne
      ·rw[h1] at hz;cases hz
  have hrel:Zcw P cx (rc.app (replay L R s0)) (a.put o.dst u) E':=by
   refine⟨?_,fun l hl=>?_,?_,Nat.le_trans hr.drawn hdr,?_,?_,fun t=>?_⟩
   ·have:(rc.app (replay L R s0)).objs=rc.ed++(replay L R s0).objs:=by generalize replay L R s0=q;cases q;rfl
    rw[this];exact g
   ·have hl:s0.nx≤l:=by
     have:(rc.app (replay L R s0)).nx=s0.nx:=by
      rw[← e2];generalize replay L R s0=q;cases q;rfl
     rw[this] at hl;exact hl
    exact hnone l (hr.fresh l (by rw[e2];exact hl)) (by omega)
   ·have:(rc.app (replay L R s0)).mv=(replay L R s0).mv:=by generalize replay L R s0=q;cases q;rfl
    rw[this]
    have e:(rc.app (replay L R s0)).objs=rc.ed++(replay L R s0).objs:=by generalize replay L R s0=q;cases q;rfl
    rw[e];simpa using hr.step.trans st
   ·have:(rc.app (replay L R s0)).nt=(replay L R s0).nt:=by generalize replay L R s0=q;cases q;rfl
    rw[this,← hr.size];cases o.dst<;>simp[Act.put]
   ·have:(rc.app (replay L R s0)).df=(replay L R s0).df:=by generalize replay L R s0=q;cases q;rfl
    have e:(a.put o.dst u).defers=a.defers:=by cases o.dst<;>rfl
    rw[this,e];exact hr.df.ext st.ext
   ·rw[Zk6,hdst]
    cases hdd:o.dst with
    | none=>exact (hr.rep t).mono st.ext
    | some d =>
      rw[ZoN (hdlt d hdd)]
      by_cases e:d=t
      ·subst e;rw[if_pos rfl,if_pos rfl];exact hu
      ·rw[if_neg (fun h=>e (by cases h;rfl)),if_neg e];exact (hr.rep t).mono st.ext
  refine hK _ E' ?_ (fun q hq hqf=>?_)
  ·refine Rel.congr hrel (fun t=>?_) (fun l=>?_) ?_ ?_ ?_ (fun l hl=>?_)
   ·
    rw[Zk6,Zdh,Zdh]
    by_cases e:rc.dst=some t
    ·rw[if_pos e]
     have hq:∀ q∈R,q.dst=some t→q=rc:=fun q hq hqd=>huniq q hq (by
      have h1:=(Zcy hd q hq t hqd).1
      have h2:=(Zcy hd rc hmem t e).1
      exact (Option.some.inj (h1.symm.trans h2)).trans hii)
     have hBn:Zee (ZlX L i) t B=none:=ZdI fun q hqB hqd=>by
      have:=hq q (by rw[hAB];simp[hqB]) hqd
      have h1:=hB q hqB
      rw[this,hii] at h1;omega
     have:Zee (ZlX L i) t R=some rc.v:=by
      rw[hAB,Zg6]
      simp only[Zee,hBn]
      rw[if_pos ⟨by simp[ZlX,hii],e⟩]
     rw[this]
    ·rw[if_neg e]
     rw[ZfK (p:=ZlX L i) (q:=L)]
     intro q hq hqd
     have:q.i≠i:=fun h=>e (by rw[← huniq q hq h];exact hqd)
     simp[ZlX,this]
   ·
    rw[ZoP,Zc8,Zc8]
    have other:Zs l rc.ed=none→ZdS (ZlX L i) l R=ZdS L l R:=fun hn=>Zfu fun q hq x hed=>by
     have:q.i≠i:=fun h=>by rw[huniq q hq h,hn] at hed;cases hed
     simp[ZlX,this]
    cases hed:Zs l rc.ed with
    | none=>rw[other hed]
    | some y =>
      simp only
      have hBn:ZdS (ZlX L i) l B=none:=Zkh fun q hqB x hqe=>by
       have hqR:q∈R:=by rw[hAB];simp[hqB]
       have h1:=hB q hqB
       rcases hord q hqR l x hqe (hks l y hed) with h | h
       ·have h2:L q.i=false:=by rw[← h];simp;omega
        simp only[ZlX,h2,Bool.false_or,decide_eq_false_iff_not];omega
       ·rw[h,hii] at h1;omega
      have:ZdS (ZlX L i) l R=some y:=by
       rw[hAB,Zg7]
       simp only[ZdS,hBn,hed]
       rw[if_pos (by simp[ZlX,hii])]
      rw[this]
   ·rw[f1,← e1];generalize replay L R s0=q;cases q;rfl
   ·rw[f3,← e3];generalize replay L R s0=q;cases q;rfl
   ·rw[f4,← e4];generalize replay L R s0=q;cases q;rfl
   ·rw[f2] at hl
    exact hnone l (hr.fresh l (by rw[e2];exact hl)) (by omega)
  ·simp only[ZlX,Bool.or_eq_false_iff,decide_eq_false_iff_not] at hqf
   exact hnone _ (hf q hq hqf.1) (by omega)
 obtain⟨dst,op,ty,po,af,guard⟩:=o
 revert hrc hobj hval
 generalize hcur:replay (fun k=>decide (k < i)) R s0=cur
 obtain⟨ntc,tmpsc,objsc,nxc,dfc,wrc,dic,mvc⟩:=cur
 intro hobj hval hrc
 simp only[Zvs] at hrc
 have hsub:∀ ks:List Nat,(∀ l∈ks,l∈rc.ks)→Sub (ZnC objsc ks) (replay L R s0).objs:=fun ks hks l x h=>by
  obtain⟨h1,h2⟩:=Zh6 h
  rw[← hobj l (hks l h1)];exact h2
 have hops:∀ tm:List (Nat×V),tm=Zm4 T ds i s0.tmps tmpsc op.operands.toList→∀ x,Rep P E (evV tm x) (a.eval x):=fun tm e x=>by
  cases x with
  | tmp t =>
    show Rep P E (Zbr t tm) _
    rw[e]
    rcases Zh8 (T:=T) (ds:=ds) (i:=i) (base:=s0.tmps) (cur:=tmpsc) (t:=t) (l:=op.operands.toList) with h | h
    ·rw[h];exact hval t
    ·rw[h];exact .any _
  | const v=>exact Ze8 v
  | global g=>exact .any _
  | func f=>exact .fn rfl rfl (fun j hj=>by simp at hj) (fun j hj=>by simp at hj)
 have hfi:E.loc (n0+i)=none:=by have:=hf rc hmem (by rw[hii];exact hL);rwa [hii] at this
 unfold wpOpIn
 rw[hi]
 simp only
 split at hrc
 ·rw[if_pos (by simp[Region.wanted])]
  split at hrc
  ·rename_i ob' v es he
   have hrc1:ob'=ob:=by cases hrc;rfl
   have hrc2:=(Prod.mk.inj (Option.some.inj hrc)).2
   subst hrc1
   have hks:∀ l∈Zvo op objsc (ksL (ZbO (Zm4 T ds i s0.tmps tmpsc op.operands.toList) op.operands.toList)),l∈rc.ks:=fun l hl=>by rw[← hrc2];simp[hl]
   have hrv:rc.v=v:=by rw[← hrc2]
   have hre:rc.ed=es:=by rw[← hrc2]
   obtain⟨hdid,hkeys⟩:=Zn0 (r:=r) (a:=a) (o:=⟨dst,op,ty,po,af,none⟩) hτ hκ he (hsub _ hks) ho hr.good hfi (fun x _=>hops _ rfl x)
   refine hdid _ Q (fun E' u k1 k2 kd k3=>?_)
   refine behind E' u (by rw[hre];exact k1) (by rw[hre];exact k2) kd (by rw[hrv];exact k3) (fun l x h=>?_) (fun l x h=>?_)
   ·rw[hre] at h
    rcases hkeys l x h with h | ⟨y,hy⟩
    ·exact .inl h
    ·exact .inr ⟨y,hsub _ hks l y hy⟩
   ·rw[hre] at h
    rw[← hrc2]
    exact List.mem_append_left _ (Zet h)
  ·cases hrc
 ·rename_i j want
  split at hrc
  ·cases hrc
  ·rename_i gd hgd
   split at hrc
   ·cases hrc
   ·rename_i g hg
    have hw:=ZlK (o:=⟨dst,op,ty,po,af,some (j,want)⟩) rfl hgd hg (hval gd)
    rw[hw]
    have hdec : Zvk τ κ dec g i dst op (Zm4 T ds i s0.tmps tmpsc op.operands.toList) (ZnC objsc (Zvo op objsc (ksL (ZbO (Zm4 T ds i s0.tmps tmpsc op.operands.toList) op.operands.toList)))) (Zvo op objsc (ksL (ZbO (Zm4 T ds i s0.tmps tmpsc op.operands.toList) op.operands.toList))) (n0 + i) = some (ob, rc) →
     if g=true then Oper.wpIn (fz r) 0 P ⟨dst,op,ty,po,af,some (j,want)⟩ a E.w K Q else (∀ (f:FuncId),Oper.about P E.w a.eval ⟨dst,op,ty,po,af,some (j,want)⟩=some f→(fz r).fn f)∧K (a.put dst undef) E.w:=fun hrc=>by
     unfold Zvk at hrc
     split at hrc
     ·cases hrc
     ·split at hrc
      ·rw[if_pos rfl]
       split at hrc
       ·rename_i ob' v es he
        have hrc1:ZgK true (Zg5 op (Zm4 T ds i s0.tmps tmpsc op.operands.toList)) ob'=ob:=by cases hrc;rfl
        have hrc2:=(Prod.mk.inj (Option.some.inj hrc)).2
        have hks:∀ l∈Zvo op objsc (ksL (ZbO (Zm4 T ds i s0.tmps tmpsc op.operands.toList) op.operands.toList)),l∈rc.ks:=fun l hl=>by rw[← hrc2];simp[hl]
        have hrv:rc.v=v:=by rw[← hrc2]
        have hre:rc.ed=es:=by rw[← hrc2]
        have hob:=(Zc2 (by rw[hrc1];exact ho) rfl).1
        have kc:=(Zc2 (by rw[hrc1];exact ho) rfl).2
        obtain⟨hdid,hkeys⟩:=Zn0 (r:=r) (a:=a) (o:=⟨dst,op,ty,po,af,some (j,want)⟩) hτ hκ he (hsub _ hks) hob hr.good hfi (fun x hx=>Zjd hx (hops _ rfl x) kc)
        refine hdid _ Q (fun E' u k1 k2 kd k3=>?_)
        refine behind E' u (by rw[hre];exact k1) (by rw[hre];exact k2) kd (by rw[hrv];exact k3) (fun l x h=>?_) (fun l x h=>?_)
        ·rw[hre] at h
         rcases hkeys l x h with h | ⟨y,hy⟩
         ·exact .inl h
         ·exact .inr ⟨y,hsub _ hks l y hy⟩
        ·rw[hre] at h
         rw[← hrc2]
         exact List.mem_append_left _ (Zet h)
       ·cases hrc
      ·rw[if_neg (by simp)]
       have hrc2:=(Prod.mk.inj (Option.some.inj hrc)).2
       have hrv:rc.v=.when false (.d .bool false):=by rw[← hrc2]
       have hre:rc.ed=[]:=by rw[← hrc2]
       exact⟨fun _ _=>trivial,behind E undef (by rw[hre];exact hr.good) (by rw[hre];exact .refl _ _ _) (Nat.le_refl _) (by rw[hrv];exact .when (fun e=>by cases e) (fun _=>rfl)) (fun l x h=>by rw[hre] at h;cases h) (fun l x h=>by rw[hre] at h;cases h)⟩
    split at hrc
    ·rename_i out he
     generalize hdat:Zss op out=out' at hrc
     obtain⟨ob',v,ed⟩:=out'
     simp only at hrc
     split at hrc
     ·rename_i es hed
      have hrc1:ZgK g (Zg5 op (Zm4 T ds i s0.tmps tmpsc op.operands.toList)) ob'=ob:=by cases hrc;rfl
      have hrc2:=(Prod.mk.inj (Option.some.inj hrc)).2
      have hks:∀ l∈Zvo op objsc (ksL (ZbO (Zm4 T ds i s0.tmps tmpsc op.operands.toList) op.operands.toList)),l∈rc.ks:=fun l hl=>by rw[← hrc2];simp[hl]
      have hrv:rc.v=.when g v:=by rw[← hrc2]
      have hre:rc.ed=es:=by rw[← hrc2]
      have hcase:(ed=none∧es=[])∨(ed=some (n0+i,.dead,false)∧es=[(n0+i,.dead)]):=by
       unfold edG at hed
       split at hed
       ·cases hed;exact .inl ⟨rfl,rfl⟩
       ·split at hed
        ·rename_i l hb
         cases hed
         rw[Nat.eq_of_beq_eq_true hb]
         exact .inr ⟨rfl,rfl⟩
        ·cases hed
       ·cases hed
      have hkey:∀ l x,Zs l rc.ed=some x→l=n0+i∨∃ y,Zs l (replay L R s0).objs=some y:=fun l x h=>by
       rw[hre] at h
       rcases hcase with ⟨_,rfl⟩ | ⟨_,rfl⟩
       ·cases h
       ·rw[Zk] at h
        split at h
        ·rename_i e;exact .inl e.symm
        ·cases h
      have hksr:∀ l x,Zs l rc.ed=some x→l∈rc.ks:=fun l x h=>by
       rw[hre] at h
       rw[← hrc2]
       exact List.mem_append_left _ (Zet h)
      cases g with
      | true =>
        rw[if_pos rfl]
        have hob:okP (Zss op out).ob:=by
         rw[hdat]
         exact (Zc2 (by rw[hrc1];exact ho) rfl).1
        have kc:=(Zc2 (by rw[hrc1];exact ho) rfl).2
        have hd0:=ZhA (r:=r) (a:=a) (o:=⟨dst,op,ty,po,af,some (j,want)⟩) hτ hκ he (hsub _ hks) (by rw[← Zqa op out];exact hob) hr.good hfi (fun x hx=>Zjd hx (hops _ rfl x) kc)
        have hd1:=Zn8 op hd0
        rw[hdat] at hd1
        refine hd1 _ Q (fun E' u k1 k2 kd k3=>?_)
        refine behind E' u ?_ ?_ kd (by rw[hrv];exact .when (fun _=>k3) (fun e=>by cases e)) hkey hksr
        ·rw[hre]
         rcases hcase with ⟨rfl,rfl⟩ | ⟨rfl,rfl⟩
         ·exact k1
         ·exact k1
        ·rw[hre]
         rcases hcase with ⟨rfl,rfl⟩ | ⟨rfl,rfl⟩
         ·exact k2
         ·exact k2
      | false =>
        rw[if_neg (by simp)]
        refine⟨fun _ _=>trivial,?_⟩
        rcases hcase with ⟨rfl,rfl⟩ | ⟨rfl,rfl⟩
        ·exact behind E undef (by rw[hre];exact hr.good) (by rw[hre];exact .refl _ _ _) (Nat.le_refl _) (by rw[hrv];exact .when (fun e=>by cases e) (fun _=>rfl)) hkey hksr
        ·have ha:=hr.good.adopt (n:=n0+i) (K:=⟨0,none,0,0,0⟩) (o:=.dead) hfi trivial (fun h=>h.elim)
         exact behind (E.setL E.w (n0+i) ⟨0,none,0,0,0⟩) undef (by rw[hre];exact ha.1) (by rw[hre];exact ha.2 E _ [] (.refl _ _ _) (fun h=>h.elim)) (Nat.le_refl _) (by rw[hrv];exact .when (fun e=>by cases e) (fun _=>rfl)) hkey hksr
     ·exact hdec hrc
    ·exact hdec hrc
end
section
variable {P:Program} {τ:Zae} {κ:ZY} {φ:Nat→Option FX}
def Zsu:Nat→List Nat→Bool
 | 0,_=>true
 | n+1,l=>match ZdT n l with
   | true=>Zsu n l
   | false=>false
theorem Zl3{l:List Nat}:∀ {n:Nat},Zsu n l=true→∀ j,j < n→j∈l
 | 0,_,j,h=>absurd h (by omega)
 | n+1,h,j,hj=>by
   simp only[Zsu] at h
   split at h
   ·rename_i h1
    by_cases e:j=n
    ·subst e;exact Zbt.1 h1
    ·exact Zl3 h j (by omega)
   ·cases h
def Zle(T:List (Nat×List Nat))(p:Nat):Nat→Nat→Bool
 | _,0=>true
 | i,c+1=>match Zsu p (ZeV i T) with
   | true=>Zle T p (i+1) c
   | false=>false
theorem ZhQ{T:List (Nat×List Nat)}{p:Nat}:∀ {c i:Nat},Zle T p i c=true→∀ j,i≤j→j < i+c→∀ k,k < p→k∈ZeV j T
 | 0,i,_,j,h1,h2,_,_=>absurd h2 (by omega)
 | c+1,i,h,j,h1,h2,k,hk=>by
   simp only[Zle] at h
   split at h
   ·rename_i hb
    by_cases e:j=i
    ·subst e;exact Zl3 hb k hk
    ·exact ZhQ h j (by omega) (by omega) k hk
   ·cases h
def ZvY:Nat→List Oper→List (Nat×Nat)
 | _,[]=>[]
 | i,⟨some d,_,_,_,_,_⟩::r=>(d,i)::ZvY (i+1) r
 | i,_::r=>ZvY (i+1) r
def Zkf{α:Type}:Nat→List α→List α×List α
 | 0,l=>([],l)
 | n+1,[]=>([],[])
 | n+1,x::l=>match Zkf n l with
   | (a,b)=>(x::a,b)
def ZmG(τ:Zae)(κ:ZY)(dec:Bool)(T:List (Nat×List Nat))(ops:List Oper)(n p:Nat)(seg:List Oper)(s:St)(k:St→Prop):Prop:=match s with
 | ⟨nt,tmps,objs,nx,df,wr,di,mv⟩=>match Zkg τ κ dec T (ZvY p seg) ops nx tmps p seg ⟨nt,tmps,objs,nx+n,df,wr,di,mv⟩ with
   | none=>False
   | some (obs,R,s')=>match Zqr T R with
     | false=>False
     | true=>match Zib nt (ZvY p seg) R with
       | false=>False
       | true=>Zw2 obs (k s')
def Zt2(ops:List Oper):List Oper→Option Nat
 | []=>none
 | ⟨_,_,_,_,_,some (j,_)⟩::_=>Zvv ops j
 | _::r=>Zt2 ops r
def ZwA(t:Nat)(b:Bool)(s:St):St:=match s with
 | ⟨nt,tmps,objs,nx,df,wr,di,mv⟩=>⟨nt,(t,.d .bool b)::tmps,objs,nx,df,t::wr,di,mv⟩
def ZrG(τ:Zae)(κ:ZY)(T:List (Nat×List Nat))(ops:List Oper)(n p:Nat)(seg:List Oper)(s:St)(k:St→Prop):Prop:=match s with
 | ⟨nt,tmps,objs,nx,df,wr,di,mv⟩=>match Zkg τ κ false T (ZvY p seg) ops nx tmps p seg ⟨nt,tmps,objs,nx+n,df,wr,di,mv⟩ with
   | some _=>ZmG τ κ false T ops n p seg ⟨nt,tmps,objs,nx,df,wr,di,mv⟩ k
   | none=>match Zt2 ops seg with
     | none=>False
     | some t=>match Zbr t tmps with
       | .d .bool b=>cond b (ZmG τ κ true T ops n p seg (ZwA t true ⟨nt,tmps,objs,nx,df,wr,di,mv⟩) k) (ZmG τ κ true T ops n p seg (ZwA t false ⟨nt,tmps,objs,nx,df,wr,di,mv⟩) k)
       | _=>False
theorem Zui{cx:Cx}{s:St}{t:Nat}{b:Bool}(hv:Zbr t s.tmps=.d .bool b){a:Act}{w:World}(r:Rel P cx s a w):Inv s (ZwA t b s)∧Rel P cx (ZwA t b s) a w:=by
 obtain⟨nt,tmps,objs,nx,df,wr,di,mv⟩:=s
 obtain⟨E,rfl,r1⟩:=r
 have hl:∀ u,Zbr u ((t,V.d .bool b)::tmps)=Zbr u tmps:=fun u=>by
  rw[Z5]
  split
  ·rename_i e;rw[← e];exact hv.symm
  ·rfl
 refine⟨⟨rfl,Nat.le_refl _,fun _ h=>List.mem_cons_of_mem _ h,fun _ h=>h,fun _ h=>h,fun u hu=>hl u,fun _ _=>rfl,fun _=>rfl⟩,E,rfl,r1.good,r1.fresh,r1.step,r1.drawn,r1.size,r1.df,fun u=>?_⟩
 show Rep P E (Zbr u ((t,V.d .bool b)::tmps)) _
 rw[hl];exact r1.rep u
theorem ZpU {cx : Cx} {T : List (Nat × List Nat)} {ops : List Oper} {n p : Nat} {seg : List Oper} {s : St} {k : St → Prop} (h : ZrG τ κ T ops n p seg s k) {a : Act} {w : World} (r : Rel P cx s a w) :
 ∃ dec s1,Inv s s1∧Rel P cx s1 a w∧ZmG τ κ dec T ops n p seg s1 k:=by
 obtain⟨nt,tmps,objs,nx,df,wr,di,mv⟩:=s
 unfold ZrG at h
 simp only at h
 split at h
 ·exact⟨false,_,.refl _,r,h⟩
 ·split at h
  ·exact h.elim
  ·rename_i t _
   split at h
   ·rename_i b hv
    obtain⟨h1,h2⟩:=Zui (P:=P) (cx:=cx) (s:=⟨nt,tmps,objs,nx,df,wr,di,mv⟩) hv r
    cases b with
    | true=>exact⟨true,_,h1,h2,h⟩
    | false=>exact⟨true,_,h1,h2,h⟩
   ·exact h.elim
def Zo9(τ:Zae)(κ:ZY)(X:XT)(T:List (Nat×List Nat))(ops:List Oper)(n:Nat):List Nat→Nat→List Oper→St→(St→Prop)→Prop
 | [],p,rest,s,k=>match rest with
   | []=>k s
   | _=>False
 | q::qs,p,rest,s,k=>match Zle T q q (n - q) with
   | false=>False
   | true=>match Nat.beq q (p+1) with
     | true=>match rest with
       | []=>False
       | o::r=>ZlI τ κ X ops [o] [] s (fun s'=>Zo9 τ κ X T ops n qs q r s' k)
     | false=>match Zkf (q - p) rest with
       | (seg,r)=>match Nat.beq (p+seg.length) q with
         | false=>False
         | true=>ZrG τ κ T ops n p seg s (fun s'=>Zo9 τ κ X T ops n qs q r s' k)
theorem Zis{α:Type}:∀ {n:Nat} {l:List α},(Zkf n l).1=l.take n∧(Zkf n l).2=l.drop n
 | 0,l=>⟨rfl,rfl⟩
 | n+1,[]=>⟨rfl,rfl⟩
 | n+1,x::l=>by
   have:=Zis (n:=n) (l:=l)
   simp only[Zkf,List.take_succ_cons,List.drop_succ_cons]
   exact⟨by rw[this.1],this.2⟩
theorem Inv.app(r:Rc)(s:St):Inv s (r.app s):=by
 obtain⟨i,dst,v,ed,ks⟩:=r
 obtain⟨nt,tmps,objs,nx,df,wr,di,mv⟩:=s
 refine⟨rfl,Nat.le_refl _,fun t ht=>?_,fun l hl=>?_,fun _ h=>h,fun t ht=>?_,fun l hl=>?_,fun _=>rfl⟩
 ·cases dst with
  | none=>exact ht
  | some d=>exact List.mem_cons_of_mem _ ht
 ·exact List.mem_append_right _ hl
 ·cases dst with
  | none=>rfl
  | some d =>
    have ht:t∉d::wr:=ht
    simp only[List.mem_cons,not_or] at ht
    show Zbr t ((d,v)::tmps)=_
    rw[Z5,if_neg (Ne.symm ht.1)]
 ·have hl:l∉Zl9 ed++di:=hl
  simp only[List.mem_append,not_or] at hl
  show Zs l (ed++objs)=_
  rw[Zcx]
  cases h:Zs l ed with
  | none=>rfl
  | some o=>exact absurd (Zet h) hl.1
theorem Inv.replay(p:Nat→Bool):∀ (R:List Rc) (s:St),Inv s (replay p R s)
 | [],s=>.refl s
 | r::rs,s=>by
   simp only[YtgpdnmfpgkkgcaaGreatDoor.replay]
   split
   ·exact (Inv.app r s).trans (Inv.replay p rs _)
   ·exact Inv.replay p rs s
def Bd(n p:Nat)(listed:Array Bool):Prop:=listed.size=n∧∀ j,j < n→listed.getD j false=decide (j < p)
def cnt(n:Nat)(listed:Array Bool):Nat:=((List.range n).filter fun j=>!listed.getD j false).length
theorem ZuU{p p':Nat→Bool}{i:Nat}(hi:p i=true)(hi':p' i=false)(hp:∀ j,p' j=true→p j=true):∀ {l:List Nat},i∈l→(l.filter p').length < (l.filter p).length:=by
 have hle:∀ l:List Nat,(l.filter p').length≤(l.filter p).length:=by
  intro l
  induction l with
  | nil=>simp
  | cons x l ih =>
    simp only[List.filter_cons]
    split
    ·rename_i h;rw[if_pos (hp x h)];simpa using ih
    ·split
     ·simp;omega
     ·exact ih
 intro l h
 induction l with
 | nil=>cases h
 | cons x l ih =>
   simp only[List.filter_cons]
   rcases List.mem_cons.1 h with rfl | h
   ·rw[if_pos hi,if_neg (by rw[hi'];simp)]
    have:=hle l
    simp;omega
   ·have:=ih h
    split
    ·rename_i h';rw[if_pos (hp x h')];simpa using this
    ·split
     ·simp;omega
     ·exact this
theorem Zd4{listed:Array Bool}{i j:Nat}(hi:i < listed.size):(listed.setIfInBounds i true).getD j false=(listed.getD j false||decide (j=i)):=by
 by_cases e:j=i
 ·subst e
  simp[Array.getD_eq_getD_getElem?,hi]
 ·rw[getD_set_ne false (Ne.symm e)];simp[e]
theorem Zq2{n i:Nat}{listed:Array Bool}(hs:listed.size=n)(hi:i < n)(hl:listed.getD i false=false):cnt n (listed.setIfInBounds i true) < cnt n listed:=by
 refine ZuU (i:=i) (by simp only[hl];rfl) (by rw[Zd4 (by omega)];simp) (fun j hj=>?_) (List.mem_range.2 hi)
 rw[Zd4 (by omega)] at hj
 cases h:listed.getD j false with
 | false=>rfl
 | true=>rw[h] at hj;cases hj
def ZvT(T:List (Nat×List Nat))(n:Nat)(listed:Array Bool):Prop:=∀ i,i < n→listed.getD i false=true→∀ j∈ZeV i T,listed.getD j false=true
theorem Zgy{ops:Array Oper}{T:List (Nat×List Nat)}(hT:PT ops T){listed:Array Bool}(hd:ZvT T ops.size listed){i:Nat}(hi:i∈Region.ready .any ops listed):i < ops.size∧listed.getD i true=false∧∀ j∈ZeV i T,listed.getD j false=true:=by
 obtain⟨h1,o,h2,h3⟩:=mem_ready.1 hi
 have hlt:i < ops.size:=(Array.getElem?_eq_some_iff.1 h2).1
 refine⟨hlt,h1,fun j hj=>?_⟩
 obtain⟨e,he,hb,hor⟩:=hT.back i o j h2 hj
 have hon:=h3 e he hb
 rcases hor with h | h
 ·rw[← h];exact hon
 ·exact hd e.on (Nat.lt_trans (hT.lt i e.on hlt (hT.edge i o e h2 he hb)) hlt) hon j h
theorem Zgd{listed:Array Bool}{n j:Nat}(hs:listed.size=n)(hj:j < n):listed.getD j true=listed.getD j false:=by
 rw[Array.getD_eq_getD_getElem?,Array.getD_eq_getD_getElem?,Array.getElem?_eq_getElem (by omega)];rfl
theorem Zom{ops:Array Oper}{T:List (Nat×List Nat)}(hT:PT ops T){listed:Array Bool}(hs:listed.size=ops.size):∀ i,i < ops.size→listed.getD i false=false→Region.ready .any ops listed≠[]:=by
 intro i
 induction i using Nat.strongRecOn with
 | _ i ih =>
   intro hi hl hn
   have:i∈Region.ready .any ops listed:=mem_ready.2 ⟨by rw[Zgd hs hi];exact hl,ops[i],Array.getElem?_eq_getElem hi,fun e he hb=>by
    have hlt:=hT.lt i e.on hi (hT.edge i ops[i] e (Array.getElem?_eq_getElem hi) he hb)
    cases h:listed.getD e.on false with
    | true=>rfl
    | false=>exact absurd hn (ih e.on hlt (by omega) h)⟩
   rw[hn] at this
   cases this
theorem ZqV{ops:Array Oper}{T:List (Nat×List Nat)}(hT:PT ops T){p:Nat}{listed:Array Bool}(h:Bd ops.size p listed):ZvT T ops.size listed:=fun i hi hl j hj=>by
 have h1:=h.2 i hi
 rw[hl] at h1
 have h2:=hT.lt i j hi hj
 have h3:i < p:=by simpa using h1.symm
 rw[h.2 j (by omega)]
 simp;omega
theorem Zs6{ops:Array Oper}{T:List (Nat×List Nat)}(hT:PT ops T){listed:Array Bool}(hs:listed.size=ops.size)(hd:ZvT T ops.size listed){i:Nat}(hi:i∈Region.ready .any ops listed):ZvT T ops.size (listed.setIfInBounds i true):=fun j hj hl k hk=>by
 obtain⟨h1,h2,h3⟩:=Zgy hT hd hi
 rw[Zd4 (by omega)] at hl ⊢
 rcases Bool.or_eq_true_iff.1 hl with h | h
 ·rw[hd j hj h k hk];rfl
 ·have:j=i:=by simpa using h
  subst this
  rw[h3 k hk];rfl
end
section
variable {P:Program} {τ:Zae} {κ:ZY} {φ:Nat→Option FX}
theorem ZvQ{F:Fence}{n:Nat}{o:Oper}{a:Act}{w:World}{K:Act→World→Prop}{Q Q':Zji}(h:∀ c a w,Q' (.panic c) a w→Q (.panic c) a w)(h2:LetsOut Q'→LetsOut Q)(hh:o.wpIn F n P a w K Q'):o.wpIn F n P a w K Q:=by
 unfold Oper.wpIn at *
 refine⟨hh.1,?_⟩
 have hh:=hh.2
 generalize (o.semAt F.round a.eval).run P w=r at *
 cases r with
 | ok x w' =>
   cases x<;>simp only[Oper.uponIn] at hh ⊢ <;>
    first
     | exact hh
     | exact⟨hh.1,CallsIn.mono hh.2 (fun e w'' he=>by cases e<;>first | exact h _ _ _ he | exact h2 he | exact he)⟩
     | exact⟨hh.1,RowsIn.mono hh.2 (fun _ _ he=>he)⟩
     | exact⟨hh.1,RoundIn.mono hh.2 (fun e w'' he=>by cases e<;>first | exact h _ _ _ he | exact h2 he | exact he)⟩
 | halt x w'=>cases x<;>simp only[Oper.uponIn] at hh ⊢<;>first | exact hh | exact h _ _ _ hh
theorem Zs8{F:Fence}{n:Nat}{ops:Array Oper}{i:Nat}{a:Act}{w:World}{K:Act→World→Prop}{Q Q':Zji}(h:∀ c a w,Q' (.panic c) a w→Q (.panic c) a w)(h2:LetsOut Q'→LetsOut Q)(hh:wpOpIn F n P ops Q' i K a w):wpOpIn F n P ops Q i K a w:=by
 unfold wpOpIn at *
 split
 ·rename_i ho;rw[ho] at hh;exact hh
 ·rename_i o ho
  rw[ho] at hh
  simp only at hh
  split
  ·rename_i hw;rw[if_pos hw] at hh;exact ZvQ h h2 hh
  ·rename_i hw;rw[if_neg hw] at hh;exact hh
theorem ZlB (hτ : Zbb P τ) (hκ : Zad P κ) {r : Option Nat} {cx : Cx} {X : XT} (hX : XOk P r cx X) {ops : Array Oper} {T : List (Nat × List Nat)} (hT : PT ops T) {Q : Zji} :
 ∀ (qs:List Nat) (p:Nat) (rest:List Oper) (s:St) (k:St→Prop),rest=ops.toList.drop p→p≤ops.size→(∀ i,p≤i→i < ops.size→∀ j,j < p→j∈ZeV i T)→Zo9 τ κ X T ops.toList ops.size qs p rest s k →
  ∀ (fuel:Nat) (listed:Array Bool) (a:Act) (w:World),Bd ops.size p listed→cnt ops.size listed≤fuel→Rel P cx s a w→(∀ s' a' w',Inv s s'→k s'→Rel P cx s' a' w'→Q .normal a' w')→wpAnyIn (fz r) 0 P .any ops Q fuel listed a w
 | [],p,rest,s,k,hrest,hps,hbd,h,fuel,listed,a,w,hB,hc,hr,hk=>by
   simp only[Zo9] at h
   split at h
   ·have hp:p=ops.size:=by
     have:(ops.toList.drop p).length=0:=by rw[← hrest];rfl
     simp at this;omega
    have hrd:Region.ready .any ops listed=[]:=by
     refine List.eq_nil_iff_forall_not_mem.2 fun i hi=>?_
     obtain⟨h1,o,h2,_⟩:=mem_ready.1 hi
     have hlt:i < ops.size:=(Array.getElem?_eq_some_iff.1 h2).1
     rw[Zgd hB.1 hlt,hB.2 i hlt,hp] at h1
     simp at h1;omega
    have hq:=hk s a w (.refl s) h hr
    cases fuel with
    | zero=>exact⟨hrd,hq⟩
    | succ f=>exact⟨fun _=>hq,fun i hi=>by rw[hrd] at hi;cases hi⟩
   ·exact h.elim
 | q::qs,p,rest,s,k,hrest,hps,hbd,h,fuel,listed,a,w,hB,hc,hr,hk=>by
   simp only[Zo9] at h
   split at h
   ·exact h.elim
   ·rename_i hall
    have hbq:q≤ops.size→∀ i,q≤i→i < ops.size→∀ j,j < q→j∈ZeV i T:=fun hq i h1 h2 j hj=>ZhQ hall i h1 (by omega) j hj
    split at h
    ·
     rename_i hqp
     have hqp:=Nat.eq_of_beq_eq_true hqp
     split at h
     ·exact h.elim
     ·rename_i o rst
      have hop:ops[p]?=some o:=by
       have:ops.toList[p]?=some o:=by
        have:=List.getElem?_drop (xs:=ops.toList) (i:=p) (j:=0)
        rw[← hrest] at this
        simpa using this.symm
       simpa using this
      have hlt:p < ops.size:=(Array.getElem?_eq_some_iff.1 hop).1
      have hrst:rst=ops.toList.drop q:=by
       have:=congrArg (List.drop 1) hrest
       rw[hqp];simpa[List.drop_drop] using this
      have hun:listed.getD p false=false:=by rw[hB.2 p hlt];simp
      have hB':Bd ops.size q (listed.setIfInBounds p true):=⟨by simpa using hB.1,fun j hj=>by
       rw[Zd4 (by rw[hB.1];exact hlt),hB.2 j hj,hqp]
       by_cases e:j=p
       ·subst e;simp
       ·have:(j < p+1)=(j < p):=by apply propext;omega
        simp[e,this]⟩
      have hcs:=Zq2 hB.1 hlt hun
      cases fuel with
      | zero=>omega
      | succ f =>
        refine⟨fun hn=>absurd hn (Zom hT hB.1 p hlt hun),fun i hi=>?_⟩
        obtain⟨h1,h2,h3⟩:=Zgy hT (ZqV hT hB) hi
        have hip:i=p:=by
         rw[Zgd hB.1 h1,hB.2 i h1] at h2
         have h2:p≤i:=by simpa using h2
         by_cases e:i=p
         ·exact e
         ·have:=h3 p (hbq (by omega) i (by omega) h1 p (by omega))
          rw[hun] at this;cases this
        subst hip
        have:=ZnO (Q:=fun e a w=>match e with | .normal=>wpAnyIn (fz r) 0 P .any ops Q f (listed.setIfInBounds i true) a w | e=>Q e a w) hτ hκ hX (ops:=ops) (l:=[o]) (is:=[i]) (by simp[hop]) h hr
         (fun s' a' w' hi' hq' hr'=>ZlB hτ hκ hX hT qs q rst s' k hrst (by omega) (hbq (by omega)) hq' f _ a' w' hB' (by omega) hr' (fun s'' a'' w'' hj hq'' hr''=>hk s'' a'' w'' (hi'.trans hj) hq'' hr''))
        rw[wpOpsIn_cons] at this
        exact Zs8 (fun c a w h=>h) (fun ⟨a,w,h⟩=>⟨a,w,h⟩) this
    ·
     generalize hsp:Zkf (q - p) rest=sr at h
     obtain⟨seg,rst⟩:=sr
     simp only at h
     have hseg:seg=rest.take (q - p):=by rw[← (Zis (n:=q - p) (l:=rest)).1,hsp]
     have hrst:rst=rest.drop (q - p):=by rw[← (Zis (n:=q - p) (l:=rest)).2,hsp]
     split at h
     ·exact h.elim
     ·rename_i hlen
      have hlen:=Nat.eq_of_beq_eq_true hlen
      obtain⟨dec,s1,hi1,hr,h⟩:=ZpU h hr
      replace hk:∀ s' a' w',Inv s1 s'→k s'→Rel P cx s' a' w'→Q .normal a' w':=fun s' a' w' hi=>hk s' a' w' (hi1.trans hi)
      obtain⟨nt,tmps,objs,nx,df,wr,di,mv⟩:=s1
      unfold ZmG at h
      simp only at h
      split at h
      ·exact h.elim
      ·rename_i obs R s' hg
       split at h
       ·exact h.elim
       ·rename_i hpairs
        split at h
        ·exact h.elim
        ·rename_i hds
         obtain⟨hobs,hrec⟩:=ZoK h
         obtain⟨k0,k1,k2,k3⟩:=Zj8 (R0:=[]) (s0:=⟨nt,tmps,objs,nx+ops.size,df,wr,di,mv⟩) hg (fun _ h=>by simp at h) rfl
         simp only[List.nil_append] at k2 k3
         have hqs:q≤ops.size:=by
          have:seg.length≤rest.length:=by rw[hseg,List.length_take];exact Nat.min_le_right _ _
          have h2:rest.length=ops.size - p:=by rw[hrest,List.length_drop,Array.length_toList]
          omega
         have hsget:∀ j o,seg[j]?=some o→ops[p+j]?=some o:=fun j o hj=>by
          rw[hseg,List.getElem?_take] at hj
          split at hj
          ·rw[hrest,List.getElem?_drop] at hj;simpa using hj
          ·cases hj
         have hrst':rst=ops.toList.drop q:=by
          rw[hrst,hrest,List.drop_drop]
          congr 1
          omega
         have hRlt:∀ r∈R,r.i < ops.size:=fun r hr=>by have:=k1 r hr;omega
         have hinv0:Inv ⟨nt,tmps,objs,nx,df,wr,di,mv⟩ ⟨nt,tmps,objs,nx+ops.size,df,wr,di,mv⟩:=⟨rfl,by simp,fun _ h=>h,fun _ h=>h,fun _ h=>h,fun _ _=>rfl,fun _ _=>rfl,fun _=>rfl⟩
         have key : ∀ (fuel : Nat) (listed : Array Bool) (a : Act) (E : Env), listed.size = ops.size → ZvT T ops.size listed → (∀ j, j < p → listed.getD j false = true) → (∀ j, j < ops.size → q ≤ j → listed.getD j false = false) → cnt ops.size listed ≤ fuel →
          Zcw P cx (replay (fun j=>listed.getD j false) R ⟨nt,tmps,objs,nx+ops.size,df,wr,di,mv⟩) a E→(∀ r∈R,listed.getD r.i false=false→E.loc (nx+r.i)=none)→wpAnyIn (fz r) 0 P .any ops Q fuel listed a E.w:=by
          intro fuel
          induction fuel with
          | zero =>
            intro listed a E hs hd hlo hhi hc hr hf
            have hall':∀ j,j < ops.size→listed.getD j false=true:=fun j hj=>by
             cases hl:listed.getD j false with
             | true=>rfl
             | false =>
               have hm:j∈(List.range ops.size).filter fun j=>!listed.getD j false:=List.mem_filter.2 ⟨List.mem_range.2 hj,by simp only[hl];rfl⟩
               rw[List.eq_nil_of_length_eq_zero (Nat.le_zero.1 hc)] at hm
               cases hm
            have hBq:Bd ops.size q listed:=⟨hs,fun j hj=>by
             rw[hall' j hj]
             by_cases e:j < q
             ·simp[e]
             ·have:=hhi j hj (by omega);rw[hall' j hj] at this;cases this⟩
            refine ZlB hτ hκ hX hT qs q rst s' k hrst' hqs (hbq hqs) hrec 0 listed a E.w hBq hc ?_ (fun s'' a'' w'' hj hq'' hr''=>hk s'' a'' w'' ((hinv0.trans (by rw[k2];exact Inv.replay _ _ _)).trans hj) hq'' hr'')
            refine⟨E,rfl,?_⟩
            rw[k2,ZcG (p:=fun _=>true) (q:=fun j=>listed.getD j false)]
            ·exact hr
            ·intro r hr;exact (hall' r.i (hRlt r hr)).symm
          | succ f ih =>
            intro listed a E hs hd hlo hhi hc hr hf
            by_cases hfull:∀ j,p≤j→j < q→listed.getD j false=true
            ·have hBq:Bd ops.size q listed:=⟨hs,fun j hj=>by
              by_cases e:j < q
              ·by_cases e2:j < p
               ·rw[hlo j e2];simp[e]
               ·rw[hfull j (by omega) e];simp[e]
              ·rw[hhi j hj (by omega)];simp[e]⟩
             refine ZlB hτ hκ hX hT qs q rst s' k hrst' hqs (hbq hqs) hrec (f+1) listed a E.w hBq hc ?_ (fun s'' a'' w'' hj hq'' hr''=>hk s'' a'' w'' ((hinv0.trans (by rw[k2];exact Inv.replay _ _ _)).trans hj) hq'' hr'')
             refine⟨E,rfl,?_⟩
             rw[k2,ZcG (p:=fun _=>true) (q:=fun j=>listed.getD j false)]
             ·exact hr
             ·intro r hr
              have:=k1 r hr
              exact (hfull r.i this.1 (by omega)).symm
            ·have:∃ j,p≤j∧j < q∧listed.getD j false=false:=by
              refine Classical.byContradiction fun hn=>hfull fun j h1 h2=>?_
              cases hl:listed.getD j false with
              | true=>rfl
              | false=>exact absurd ⟨j,h1,h2,hl⟩ hn
             obtain⟨j,hj1,hj2,hj3⟩:=this
             refine⟨fun hn=>absurd hn (Zom hT hs j (by omega) hj3),fun i hi=>?_⟩
             obtain⟨h1,h2,h3⟩:=Zgy hT hd hi
             rw[Zgd hs h1] at h2
             have hip:p≤i:=by
              refine Nat.le_of_not_lt fun hlt=>?_
              rw[hlo i hlt] at h2;cases h2
             have hiq:i < q:=by
              refine Nat.lt_of_not_le fun hle=>?_
              have:=h3 j (hbq hqs i hle h1 j hj2)
              rw[hj3] at this;cases this
             obtain⟨o,ho⟩:∃ o,seg[i - p]?=some o:=⟨seg[i - p],List.getElem?_eq_getElem (by omega)⟩
             have hio:=hsget _ _ ho
             rw[show p+(i - p)=i from by omega] at hio
             obtain⟨ob,rc,m1,m2,m3⟩:=k3 _ _ ho
             rw[show p+(i - p)=i from by omega] at m1
             refine Zsy (L:=fun j=>listed.getD j false) (n0:=nx) hτ hκ hT hio m1 (hobs ob m2) m3 k0 hpairs hds hRlt rfl h2 (fun q hq hl j hj _=>hd q.i (hRlt q hq) hl j hj) (fun j hj _=>h3 j hj) hr hf (fun a' E' hr' hf'=>?_)
             have hset:∀ j,(listed.setIfInBounds i true).getD j false=ZlX (fun j=>listed.getD j false) i j:=fun j=>by rw[Zd4 (by omega)];rfl
             refine ih (listed.setIfInBounds i true) a' E' (by simpa using hs) (Zs6 hT hs hd hi) (fun j hj=>?_) (fun j hj hqj=>?_) ?_ ?_ (fun q hq hl=>hf' q hq (by rw[← hset];exact hl))
             ·rw[Zd4 (by omega),hlo j hj];rfl
             ·rw[Zd4 (by omega),hhi j hj hqj];simp;omega
             ·have:=Zq2 hs h1 h2;omega
             ·rw[ZcG (p:=fun j=>(listed.setIfInBounds i true).getD j false) (q:=ZlX (fun j=>listed.getD j false) i)]
              ·exact hr'
              ·intro r _;exact hset r.i
         obtain⟨E,rfl,r1⟩:=hr
         refine key fuel listed a E hB.1 (ZqV hT hB) (fun j hj=>by rw[hB.2 j (by omega)];simpa using hj) (fun j hj hqj=>?_) hc ?_ (fun r hr _=>r1.fresh _ (by show nx≤nx+r.i;omega))
         ·have hqp:p≤q:=by omega
          rw[hB.2 j hj];simp;omega
         ·rw[ZfB]
          ·exact⟨r1.good,fun l hl=>r1.fresh l (by have:nx+ops.size≤l:=hl;show nx≤l;omega),r1.step,r1.drawn,r1.size,r1.df,r1.rep⟩
          ·intro r hr
           have:=k1 r hr
           rw[hB.2 r.i (hRlt r hr)];simp;omega
def Zvw(l:List Nat):Nat→Nat→Nat
 | 0,k=>k
 | f+1,k=>match ZdT k l with
   | true=>Zvw l f (k+1)
   | false=>k
def Zr3(T:List (Nat×List Nat)):Nat→Nat→Nat→List Nat→List Nat
 | 0,_,_,acc=>acc
 | i+1,n,m,acc=>match Zvw (ZeV i T) n 0 with
   | k=>match Nat.ble k m with
     | true=>match Nat.ble i k with
       | true=>match i with
         | 0=>acc
         | j+1=>Zr3 T i n k (i::acc)
       | false=>Zr3 T i n k acc
     | false=>match Nat.ble i m with
       | true=>match i with
         | 0=>acc
         | j+1=>Zr3 T i n m (i::acc)
       | false=>Zr3 T i n m acc
def Zs5(τ:Zae)(κ:ZY)(X:XT)(l:List Oper)(s:St)(k:St→Prop):Prop:=match l.length with
 | n=>match ZvS 0 l [] with
   | T=>match ZmO T 0 l with
     | false=>False
     | true=>match Zr3 T n n n [n] with
       | qs=>Zo9 τ κ X T l n qs 0 l s k
theorem Rel.drawn{cx:Cx}{s:St}{a:Act}{w:World}(h:Rel P cx s a w):Rel P cx s a { w with drawn:=w.drawn+1 }:=by
 obtain⟨E,rfl,r⟩:=h
 obtain⟨g,st⟩:=r.good.at (w:={ E.w with drawn:=E.w.drawn+1 }) rfl (Nat.le_succ _) rfl rfl rfl
 exact⟨E.at _,rfl,g,r.fresh,by simpa using r.step.trans st,Nat.le_trans r.drawn (Nat.le_succ _),r.size,r.df.ext st.ext,fun t=>(r.rep t).mono st.ext⟩
theorem Zsx (hτ : Zbb P τ) (hκ : Zad P κ) (hm : P.follows .mixedOrders = true) {r : Option Nat} {cx : Cx} {X : XT} (hX : XOk P r cx X) {id : Nat} {ops : Array Oper} {s : St} {k : St → Prop} {R : Zji} (h : Zs5 τ κ X ops.toList s k) {a : Act} {w : World} (hr : Rel P cx s a w)
 (hk:∀ s' a' w',Inv s s'→k s'→Rel P cx s' a' w'→R .normal a' w'):(Code.region id ops true).wpIn (fz r) 0 P R a w:=by
 refine wpIn_region_any hm ?_
 unfold Zs5 at h
 simp only at h
 split at h
 ·exact h.elim
 ·rename_i hp
  refine ZlB hτ hκ hX (PT.of hp) _ 0 _ s k rfl (Nat.zero_le _) (fun i _ _ j hj=>absurd hj (by omega)) (by simpa using h) _ _ a _ ⟨by simp,fun j hj=>?_⟩ ?_ hr.drawn hk
  ·simp[Array.getD_eq_getD_getElem?,hj]
  ·refine Nat.le_trans (List.length_filter_le _ _) (by simp)
theorem ZtA(hτ:Zbb P τ)(hκ:Zad P κ)(hm:P.follows .mixedOrders=true):DOk P (Zs5 τ κ):=fun X id ops s k cx r R hX h a w hr hk=>Zsx hτ hκ hm hX h hr hk
abbrev walk(τ:Zae)(κ:ZY)(φ:Nat→Option FX):Zh0:=ZwY τ κ φ (Zs5 τ κ) 8
theorem Zby(hτ:Zbb P τ)(hκ:Zad P κ)(hφ:∀ g fi,φ g=some fi→fi.Ok P g)(hm:P.follows .mixedOrders=true):Zcb P (walk τ κ φ):=Zrr hτ hκ hφ (ZtA hτ hκ hm) 8
end
section
variable {P:Program} {τ:Zae} {κ:ZY} {φ:Nat→Option FX}
def Zcj.{u}{α:Type u}(n:Nat):List (Nat×α)→Option α
 | []=>none
 | (m,x)::r=>match Nat.beq m n with
   | true=>some x
   | false=>Zcj n r
def ZbW(n:Nat):List (Nat×CX)→Option CX
 | []=>none
 | (m,x)::r=>match Nat.beq m n with
   | true=>some x
   | false=>ZbW n r
theorem Ziu{α:Type}{n:Nat}{x:α}:∀ {l:List (Nat×α)},Zcj n l=some x→(n,x)∈l
 | [],h=>by cases h
 | (m,y)::r,h=>by
   simp only[Zcj] at h
   split at h
   ·rename_i e;cases h;rw[Nat.eq_of_beq_eq_true e];exact List.mem_cons_self
   ·exact List.mem_cons_of_mem _ (Ziu h)
theorem Zto:Zad P (fun n=>ZbW n []):=fun _ _ h=>by cases h
theorem ZkH{f:Nat}{c:CX}{l:List (Nat×CX)}(h:c.Ok P f)(k:Zad P (fun n=>ZbW n l)):Zad P (fun n=>ZbW n ((f,c)::l)):=fun g d hd=>by
 simp only[ZbW] at hd
 split at hd
 ·rename_i e;cases hd;rw[← Nat.eq_of_beq_eq_true e];exact h
 ·exact k g d hd
theorem Zh{f:Nat}{c:Con}{l:List (Nat×CX)}(h:ZW P f c)(k:Zad P (fun n=>ZbW n l)):Zad P (fun n=>ZbW n ((f,.con c)::l)):=ZkH (c:=.con c) h k
theorem ZoJ{f:Nat}{r:Zp4}{l:List (Nat×CX)}(h:Zlp P f r)(k:Zad P (fun n=>ZbW n l)):Zad P (fun n=>ZbW n ((f,.row r)::l)):=ZkH (c:=.row r) h k
theorem Lp.wf{σ:Type}{body:σ→(σ→Prop)→Prop}(I:σ→Prop)(μ:σ→Nat)(h:∀ y,I y→∀ R:σ→Prop,(∀ y',I y'→μ y' < μ y→R y')→body y R){x:σ}(hx:I x):Lp body x:=by
 intro R hR
 have key:∀ n y,μ y < n→I y→R y:=by
  intro n
  induction n with
  | zero=>exact fun y hn=>absurd hn (Nat.not_lt_zero _)
  | succ n ih=>exact fun y hn hy=>hR _ (h y hy R fun y' hy' hlt=>ih y' (by omega) hy')
 exact key (μ x+1) x (Nat.lt_succ_self _) hx
end
def Zor:Ty→List Value
 | .int k=>[.int k 0]
 | .bool=>[.bool false]
 | .str=>[.string ByteArray.empty]
 | .sl _=>[.slice none 0 0]
 | .pair a b=>Zor a++Zor b
 | .unit=>[]
theorem ZgL(w:World)(S:Nat→Prop):∀ T:Ty,Zbq w S T T.dflt (Zor T)
 | .int _=>rfl
 | .bool=>rfl
 | .str=>rfl
 | .sl _=>⟨none,0,rfl,⟨Nat.le_refl _,Nat.zero_le _⟩,fun h=>absurd rfl h⟩
 | .pair a b=>⟨_,_,rfl,ZgL w S a,ZgL w S b⟩
 | .unit=>rfl
theorem Ztz{P:Program}{l:List (Nat×TI)}(h:∀ p∈l,p.2.Ok P p.1):Zbb P (fun t=>Zcj t l):=fun t i ht=>h (t,i) (Ziu ht)
theorem ZrN{P:Program}{l:List (Nat×TI)}(h:∀ p∈l,p.2.Ok P p.1)(q:Nat×TI→Bool):Zbb P (fun t=>Zcj t (l.filter q)):=fun t i ht=>h (t,i) (List.mem_filter.1 (Ziu ht)).1
theorem TI.ok_mk {P : Program} {t : TypeId} {ti : TI} (h : (P.info? t).map (fun i => (i.size, i.bytes, i.zero.map fun z => (z.cells.toList, z.cells.size))) = some (ti.size, ti.bytes, some (ti.zero, ti.size)))
 (hk:match ti.k with
 | .int k=>P.underlying t=some (.int k)
 | .bool=>P.underlying t=some .bool
 | .str=>P.underlying t=some .string
 | .sl e=>P.underlying t=some (.slice e)
 | .arr n e=>P.underlying t=some (.array n e)∧∃ zs sz,(P.info? e).map (fun ie=>(ie.zero.map fun z=>z.cells.toList,ie.size))=some (some zs,sz)∧ti.zero=(List.replicate n zs).flatten∧ti.size=n*sz∧0 < n∧n≤9223372036854775807∧0 < sz
 | .st offs=>∃ fs,P.underlying t=some (.struct fs)∧fs.toList.map (fun f=>(f.offset,P.cellsOf f.type))=offs∧∀ p∈offs,p.2≠0
 | .ptr=>∃ e,P.underlying t=some (.pointer e)
 | .map k e=>P.underlying t=some (.map k e)∧(P.info? e).map (fun ie=>ie.zero.map fun z=>z.oneCell')=some (some true)
 | .fn=>∃ ps rs v,P.underlying t=some (.func ps rs v)
 | .other=>True) (hc:match ti.code with | some T=>T.size=ti.size∧0 < ti.size∧Zor T=ti.zero | none=>True):ti.Ok P t:=by
 obtain⟨k,size,bytes,zero,code⟩:=ti
 refine⟨?_,?_,fun T hT=>?_⟩
 ·simp only[Option.map_eq_some_iff,Prod.mk.injEq] at h
  obtain⟨i,hi,h1,h2,h3⟩:=h
  obtain⟨z,hz,h4,h5⟩:=h3
  exact⟨i,z,hi,h1,h2,hz,h4,h5⟩
 ·cases k
  case arr n e =>
   obtain⟨h1,zs,sz,h2,h3⟩:=hk
   simp only[Option.map_eq_some_iff,Prod.mk.injEq] at h2
   obtain⟨ie,hie,⟨ze,hze,rfl⟩,rfl⟩:=h2
   exact⟨h1,ie,ze,hie,hze,h3⟩
  case map k e =>
   obtain⟨h1,h2⟩:=hk
   simp only[Option.map_eq_some_iff] at h2
   obtain⟨ie,hie,ze,hze,h3⟩:=h2
   exact⟨h1,ie,ze,hie,hze,h3⟩
  all_goals exact hk
 ·simp only at hT
  subst hT
  obtain⟨h1,h2,h3⟩:=hc
  exact⟨h1,h2,fun w S=>by simp only at h3;rw[← h3];exact ZgL w S T⟩
def ZjB(f:Func):FI:=⟨f.ntmps,f.results.toList,match f.body with | some c=>c | none=>.skip⟩
theorem Zbd {P : Program} {g : FuncId} {f : Func} (h : P.funcs[g]? = some f) (hb : f.body.isSome = true) (hn : (f.name == "runtime.NumGoroutine") = false) : (ZjB f).Ok P g := by
 refine⟨f,h,?_,rfl,rfl,hn⟩
 unfold ZjB
 cases hf:f.body with
 | some c=>rfl
 | none=>rw[hf] at hb;cases hb
theorem ZsL{P:Program}:∀ g fx,(fun n=>Zcj n ([]:List (Nat×FX))) g=some fx→fx.Ok P g:=fun _ _ h=>by cases h
theorem Zbj{P:Program}{l:List (Nat×FX)}{f:Nat}{x:FX}(h:x.Ok P f)(k:∀ g fx,(fun n=>Zcj n l) g=some fx→fx.Ok P g):∀ g fx,(fun n=>Zcj n ((f,x)::l)) g=some fx→fx.Ok P g:=fun g fx hg=>by
 simp only[Zcj] at hg
 split at hg
 ·rename_i e;cases hg;rw[← Nat.eq_of_beq_eq_true e];exact h
 ·exact k g fx hg
theorem Zf {P : Program} {τ : Zae} (hτ : Zbb P τ) {run : Zh0} (hrun : Zcb P run) {A : An} {f : FuncId} {fi : FI} (hok : fi.Ok P f) {ps : List PS} {rs : List Ty} {pre : Option (Zb9 ps → Prop)} {fn : Zb9 ps → Zeg rs} {Wp : Zb9 ps → (Zeg rs → Prop) → Prop}
 (hw:∀ xs Q,Wp xs Q=fnW τ run A fi ps rs xs Q) (hs:∀ xs,Zmh ps xs→okP (Con.ob ⟨ps,pre,fun xs=>Zbl rs (fn xs)⟩ xs)→Wp xs (fun r=>r=fn xs)):ZW P f ⟨ps,pre,fun xs=>Zbl rs (fn xs)⟩ :=
 ZsW hτ hrun hok fun xs hl hp=>hw xs _▸hs xs hl hp
section
variable {P:Program} {τ:Zae} {κ:ZY}
def Zww:List Nat→List Nat→Bool
 | [],_=>true
 | l::r,M=>match ZdT l M with
   | true=>Zww r M
   | false=>false
theorem ZoY:∀ {a b:List Nat},Zww a b=true→∀ l∈a,l∈b
 | [],_,_,l,h=>by simp at h
 | k::r,b,h,l,hl=>by
   simp only[Zww] at h
   split at h
   ·rename_i hk
    rcases List.mem_cons.1 hl with rfl | hl
    ·exact Zbt.1 hk
    ·exact ZoY h l hl
   ·cases h
def Zw5(τ:Zae)(run:Zh0)(A:An)(fi:FI)(R:Zpy)(a:R.α)(b:R.β)(Q:Zeg R.rs→R.β→Prop):Prop:=match fi with
 | ⟨nt,res,code⟩=>match R.vals a with
   | vs=>match Nat.ble vs.length nt with
     | false=>False
     | true=>run A [] false code ⟨nt,ZcP 0 vs,R.objs b,R.k,[],[],[],[]⟩ (fun e s=>match Zju e with
       | false=>False
       | true=>match Zgb τ res s with
         | none=>False
         | some (v,s2)=>match Zww s2.mv R.mv with
           | false=>False
           | true=>match Znw R.rs v with
             | none=>False
             | some r=>match R.back s2.objs with
               | none=>False
               | some b'=>Q r b')
theorem Ztv(hτ:Zbb P τ){run:Zh0}(hrun:Zcb P run){A:An}{f:FuncId}{fi:FI}(hok:fi.Ok P f){R:Zpy}(hl:R.Law)(h:∀ a b,R.pre a b→Zw5 τ run A fi R a b (R.post a b)):Sp.Ok P f (.self R):=by
 refine⟨hl,hok.call,fun E objs vs ks a b g hg hp cs rv=>?_⟩
 obtain⟨g0,hf0,hr0⟩:=Zmd hl g hg
 have rs:=hr0 rv
 have hin:CallsIn (fz none) 0 P f cs.toArray E.w fun e w2=>∃ u E' r b',e=.returned u∧E'.w=w2∧R.post a b r b'∧Z0 P E' (ZbH R ks b' objs)∧Zcm E objs E' (ZbH R ks b' objs) (mvK ks R.mv)∧E.w.drawn≤w2.drawn∧Rep P E' (Zbl R.rs r) u:=by
  obtain⟨fn,h1,h2,h3,h4,h5⟩:=hok
  have hw:=h a b hp
  obtain⟨nt,res,code⟩:=fi
  unfold Zw5 at hw
  simp only at hw h2 h3 h4
  split at hw
  ·exact hw.elim
  ·rename_i hlen
   have hrel:=Zel (nt:=nt) (cargs:=cs.toArray) g0 hf0 (by simpa using rs) (Nat.le_of_ble_eq_true hlen)
   refine callsIn_of_wp_marks h1 h2 trivial ?_
   rw[h3]
   refine hrun A [] none code _ _ ⟨Zmm ks E,R.objs b⟩ _ hw _ E.w hrel (fun e s1 a1 w1 hi hk hr1=>?_)
   have fin:Zju e=true→LeavesInM (fz none) 0 P fn a1.tmps (fun e w2=>∃ u E' r b',e=.returned u∧E'.w=w2∧R.post a b r b'∧Z0 P E' (ZbH R ks b' objs)∧Zcm E objs E' (ZbH R ks b' objs) (mvK ks R.mv)∧E.w.drawn≤w2.drawn∧Rep P E' (Zbl R.rs r) u) a1.defers .returning w1:=fun he=>by
    rw[he] at hk
    simp only at hk
    split at hk
    ·exact hk.elim
    ·rename_i v s2 hf
     split at hk
     ·exact hk.elim
     ·rename_i hmv
      split at hk
      ·exact hk.elim
      ·rename_i r hr
       split at hk
       ·exact hk.elim
       ·rename_i b' hb
        refine Zf0 hτ (fi:=⟨nt,res,code⟩) h4 hf hr1 (fun u E2 haft hu=>?_)
        obtain⟨k1,k2⟩:=Zrd hl g hg haft.good haft.step (ZoY hmv) hb
        exact⟨u,ZmC ks E E2,r,b',rfl,rfl,hk,k1,k2,haft.drawn,ZmZ (Zia hr hu)⟩
   cases e with
   | normal=>exact fin rfl
   | ret=>exact fin rfl
   | _=>exact hk.elim
 exact callsIn_wide.1 hin
def fnL(τ:Zae)(run:Zh0)(A:An)(fi:FI)(ps:List PS)(xs:Zb9 ps)(Q:List Int×Int→Prop):Prop:=match fi with
 | ⟨nt,res,code⟩=>match Zjr ps xs with
   | vs=>match Nat.ble vs.length nt with
     | false=>False
     | true=>run A [] false code ⟨nt,ZcP 0 vs,[],0,[],[],[],[]⟩ (fun e s=>match Zju e with
       | false=>False
       | true=>match Zgb τ res s with
         | none=>False
         | some (v,s2)=>match v with
           | .agg [.osl l,.d (.int .i64) k]=>match Zs l s2.objs with
             | some (.row (.int .i64) ys)=>Q (ys,k)
             | _=>False
           | _=>False)
theorem ZsE(hτ:Zbb P τ){run:Zh0}(hrun:Zcb P run){A:An}{f:FuncId}{fi:FI}(hok:fi.Ok P f){c:Zwx}(h:∀ ys,Zmh c.ps ys→c.pre ys→fnL τ run A fi c.ps ys (fun r=>r=c.fn ys)):Zq4 P f c:=by
 refine⟨hok.call,fun E objs n ys g hn hp args ra=>?_⟩
 have hw:=h ys (Ze1 ra) hp
 have g0:Z0 P ⟨E.w,E.S,fun _=>none⟩ []:=Zgg g.sok
 have hin:CallsIn (fz none) 0 P f args E.w fun e w2=>∃ u E',e=.returned u∧E'.w=w2∧Z0 P E' ((n,.row (.int .i64) (c.fn ys).1)::objs)∧Zcm E objs E' ((n,.row (.int .i64) (c.fn ys).1)::objs) []∧E.w.drawn≤w2.drawn∧Rep P E' (.agg [.osl n,.d (.int .i64) (c.fn ys).2]) u:=by
  obtain⟨fn,h1,h2,h3,h4,h5⟩:=hok
  obtain⟨nt,res,code⟩:=fi
  unfold fnL at hw
  simp only at hw h2 h3 h4
  split at hw
  ·exact hw.elim
  ·rename_i hlen
   have hrel:=Zel (nt:=nt) (nx:=0) g0 (fun _ _=>rfl) ra (Nat.le_of_ble_eq_true hlen)
   refine callsIn_of_wp_marks h1 h2 trivial ?_
   rw[h3]
   refine hrun A [] none code _ _ ⟨⟨E.w,E.S,fun _=>none⟩,[]⟩ _ hw _ E.w hrel (fun e s1 a1 w1 hi hk hr1=>?_)
   have fin:Zju e=true→LeavesInM (fz none) 0 P fn a1.tmps (fun e w2=>∃ u E',e=.returned u∧E'.w=w2∧Z0 P E' ((n,.row (.int .i64) (c.fn ys).1)::objs)∧Zcm E objs E' ((n,.row (.int .i64) (c.fn ys).1)::objs) []∧E.w.drawn≤w2.drawn∧Rep P E' (.agg [.osl n,.d (.int .i64) (c.fn ys).2]) u) a1.defers .returning w1:=fun he=>by
    rw[he] at hk
    simp only at hk
    split at hk
    ·exact hk.elim
    ·rename_i v s2 hf
     split at hk
     ·rename_i l k
      split at hk
      ·rename_i zs ho
       refine Zf0 hτ (fi:=⟨nt,res,code⟩) h4 hf hr1 (fun u E2 haft hu=>?_)
       obtain⟨rfl,rfl⟩:zs=(c.fn ys).1∧k=(c.fn ys).2:=by rw[← hk];exact⟨rfl,rfl⟩
       obtain⟨L,hL,hat⟩:=haft.good.at_ l _ ho
       have st:=haft.step
       have hd0:∀ b,¬ Zdj (⟨E.w,E.S,fun _=>none⟩:Env) [] b:=fun b ⟨_,_,_,h,_⟩=>by cases h
       have hx:Ext E ⟨E2.w,E2.S,fun j=>if j=n then E2.loc l else E.loc j⟩ []:=⟨fun b hb=>st.ext.S b hb,fun j K _ hK=>by
        have:j≠n:=fun e=>by subst e;rw[hn] at hK;cases hK
        simp only[if_neg this];exact hK⟩
       have hfr:∀ b,b < E.w.heap.size→E2.w.heap[b]?=E.w.heap[b]?:=fun b hb=>st.frame b hb (hd0 b)
       have hnew:∀ b,Zdj E2 s2.objs b→E.w.heap.size≤b:=fun b hb=>(st.own b hb).elim id fun h=>(hd0 b h).elim
       have hat':ZaA P ⟨E2.w,E2.S,fun j=>if j=n then E2.loc l else E.loc j⟩ L (.row (.int .i64) (c.fn ys).1) :=
        hat.keepS (E':=⟨E2.w,E2.S,fun j=>if j=n then E2.loc l else E.loc j⟩) (f:=fun _=>.any) (fun v c r=>Zb7 (E:=E2) (E':=⟨E2.w,E2.S,fun j=>if j=n then E2.loc l else E.loc j⟩) (fun b hb=>⟨hb,rfl⟩) (fun v c _ _=>.any c) r) (fun b hb=>⟨hb,rfl⟩) (fun _=>rfl)
       have hcase:∀ j o,Zs j ((n,Obj.row (.int .i64) (c.fn ys).1)::objs)=some o→(j=n∧o=.row (.int .i64) (c.fn ys).1)∨(j≠n∧Zs j objs=some o):=fun j o h=>by
        rw[Zk] at h
        split at h
        ·rename_i e;cases h;exact .inl ⟨e.symm,rfl⟩
        ·rename_i e;exact .inr ⟨fun e'=>e e'.symm,h⟩
       have hown:∀ b,Zdj (⟨E2.w,E2.S,fun j=>if j=n then E2.loc l else E.loc j⟩:Env) ((n,Obj.row (.int .i64) (c.fn ys).1)::objs) b→(Zdj E2 s2.objs b∧E.w.heap.size≤b)∨Zdj E objs b:=fun b ⟨j,o,K,k1,k2,k3,k4⟩=>by
        rcases hcase j o k1 with ⟨rfl,rfl⟩ | ⟨hne,ho'⟩
        ·simp only[if_true] at k2
         have hb:Zdj E2 s2.objs b:=⟨l,_,K,ho,k2,k3,k4⟩
         exact .inl ⟨hb,hnew b hb⟩
        ·simp only[if_neg hne] at k2
         exact .inr ⟨j,o,K,ho',k2,k3,k4⟩
       refine⟨u,⟨E2.w,E2.S,fun j=>if j=n then E2.loc l else E.loc j⟩,rfl,rfl,⟨fun j o h=>?_,fun b hb hs=>?_,haft.good.sl,haft.good.tab,fun i j o o' K K' k1 k2 k3 k4 k5 k6 k7=>?_⟩,
        ⟨hx,st.os,st.tape,st.output,st.size,fun b hb _=>hfr b hb,fun b hb=>?_,fun b hb=>?_,fun j h=>?_,fun j h=>?_⟩,haft.drawn,?_⟩
       ·rcases hcase j o h with ⟨rfl,rfl⟩ | ⟨hne,ho'⟩
        ·exact⟨L,by simp only[if_true];exact hL,hat'⟩
        ·obtain⟨K,hK,ha⟩:=g.at_ j o ho'
         exact⟨K,by simp only[if_neg hne];exact hK,ha.keep hx fun hh=>hfr _ (g.own_lt ⟨j,o,K,ho',hK,hh,rfl⟩)⟩
       ·rcases hown b hb with ⟨h,_⟩ | h
        ·exact haft.good.ns b h hs
        ·rcases st.st b hs with k | k | k
         ·exact g.ns b h k
         ·have:=g.own_lt h
          have k:E.w.heap.size≤b:=k
          omega
         ·exact hd0 b k
       ·rcases hcase i o k1 with ⟨rfl,rfl⟩ | ⟨hne,ho1⟩
        ·rcases hcase j o' k2 with ⟨rfl,rfl⟩ | ⟨hne',ho2⟩
         ·rfl
         ·simp only[if_true] at k3
          simp only[if_neg hne'] at k4
          have a1:=hnew K.b ⟨l,_,K,ho,k3,k5,rfl⟩
          have a2:=g.own_lt ⟨j,o',K',ho2,k4,k6,rfl⟩
          omega
        ·simp only[if_neg hne] at k3
         rcases hcase j o' k2 with ⟨rfl,rfl⟩ | ⟨hne',ho2⟩
         ·simp only[if_true] at k4
          have a1:=hnew K'.b ⟨l,_,K',ho,k4,k6,rfl⟩
          have a2:=g.own_lt ⟨i,o,K,ho1,k3,k5,rfl⟩
          omega
         ·simp only[if_neg hne'] at k4
          exact g.inj i j o o' K K' ho1 ho2 k3 k4 k5 k6 k7
       ·rcases hown b hb with ⟨_,h⟩ | h
        ·exact .inl h
        ·exact .inr h
       ·rcases st.st b hb with k | k | k
        ·exact .inl k
        ·exact .inr (.inl k)
        ·exact (hd0 b k).elim
       ·rw[Zk] at h
        split at h
        ·cases h
        ·exact h
       ·rw[Zk] at h
        split at h
        ·cases h
        ·rename_i e;simp only[if_neg fun e'=>e (Eq.symm e')]
       ·have hag:=ZnM hu
        obtain⟨ca,rfl,rr⟩:=hag
        match hc:ca.toList,rr with
        | [c1,c2],rr =>
          obtain⟨K,hK,rfl⟩:=ZbY rr.head
          have e2:=rr.tail.head.int_inv
          subst e2
          have hca:ca=#[K.v,.int .i64 (c.fn ys).2]:=Array.ext' (by rw[hc])
          rw[hca]
          refine .agg rfl fun j hj=>?_
          match j,hj with
          | 0,_=>exact .osl (L:=K) (by show (if n=n then E2.loc l else E.loc n)=some K;rw[if_pos rfl];exact hK)
          | 1,_=>exact .mk_int _ _
        | [],rr=>exact absurd rr.1 (by simp)
        | [_],rr=>exact absurd rr.1 (by simp)
        | _::_::_::_,rr=>exact absurd rr.1 (by simp)
      ·exact hk.elim
     ·exact hk.elim
   cases e with
   | normal=>exact fin rfl
   | ret=>exact fin rfl
   | _=>exact hk.elim
 exact callsIn_wide.1 hin
end
section
variable {P:Program} {τ:Zae} {κ:ZY}
theorem ZsV{r:Option Nat}{o:Oper}{a:Act}{w w':World}{v:Value}{next:Act→World→Prop}{Q:Zji}(hd:∀ c,o.op≠.defer c)(h:(execOp a.eval o).run P w=.ok (.value v) w')(hn:next (a.put o.dst v) w'):o.wpIn (fz r) 0 P a w next Q:=by
 refine⟨fun _ _=>trivial,?_⟩
 rw[Oper.semAt_eq _ _ _ hd,h]
 exact hn
theorem ZsQ{E:Env}{objs:Zaf}(g:Z0 P E objs)(c:Value)(t:TypeId):∃ E',E'.w=E.w.alloc (.cells #[c] t)∧E'.S E.w.heap.size∧Z0 P E' objs∧Zcm E objs E' objs []:=by
 have g0:Z0 P ⟨E.w,E.S,fun _=>none⟩ []:=Zgg g.sok
 obtain⟨E1,hw,g1,s1,hl⟩:=Zgf (n:=0) (cs:=[V.any]) (vals:=#[c]) (t:=t) g0 rfl (.cons (.any c) .nil)
 obtain⟨g2,s2⟩:=g1.still (l:=0) (by rfl) hl
 have st:=s1.trans s2
 have hd0:∀ b,¬ Zdj (⟨E.w,E.S,fun _=>none⟩:Env) [] b:=fun b ⟨_,_,_,h,_⟩=>by cases h
 have hfr:∀ b,b < E.w.heap.size→E1.w.heap[b]?=E.w.heap[b]?:=fun b hb=>st.frame b hb (hd0 b)
 have hx:Ext E ⟨E1.w,(E1.still E.w.heap.size ((Obj.box [V.any]).has { b:=E.w.heap.size })).S,E.loc⟩ []:=⟨fun b hb=>st.ext.S b hb,fun j K _ hK=>hK⟩
 have hown:∀ b,Zdj (⟨E1.w,(E1.still E.w.heap.size ((Obj.box [V.any]).has { b:=E.w.heap.size })).S,E.loc⟩:Env) objs b→Zdj E objs b:=fun b ⟨l,o,L,h1,h2,h3,h4⟩=>⟨l,o,L,h1,h2,h3,h4⟩
 have hst:∀ b,(E1.still E.w.heap.size ((Obj.box [V.any]).has { b:=E.w.heap.size })).S b→E.S b∨E.w.heap.size≤b:=fun b hb=>by
  rcases st.st b hb with k | k | k
  ·exact .inl k
  ·exact .inr k
  ·exact (hd0 b k).elim
 refine⟨⟨E1.w,(E1.still E.w.heap.size ((Obj.box [V.any]).has { b:=E.w.heap.size })).S,E.loc⟩,hw,.inr ⟨trivial,rfl⟩,⟨fun l o h=>?_,fun b hb hs=>?_,g2.sl,g2.tab,fun i j o o' K K' k1 k2 k3 k4=>g.inj i j o o' K K' k1 k2 k3 k4⟩,
  ⟨hx,st.os,st.tape,st.output,st.size,fun b hb _=>hfr b hb,fun b hb=>.inr (hown b hb),fun b hb=>(hst b hb).elim .inl fun h=>.inr (.inl h),fun l h=>h,fun l h=>rfl⟩⟩
 ·obtain⟨K,hK,ha⟩:=g.at_ l o h
  exact⟨K,hK,ha.keep hx fun hh=>hfr _ (g.own_lt ⟨l,o,K,h,hK,hh,rfl⟩)⟩
 ·have hb':=hown b hb
  rcases hst b hs with k | k
  ·exact g.ns b hb' k
  ·have:=g.own_lt hb'
   omega
def ZrS(i1 i2:Nat)(t t1 t2 t3 t4:TypeId)(h:FuncId)(p1 p2 p3 p4:String)(af:Array Edge):Code :=
 (Code.region i1 #[{ dst:=some 1,op:=Op.box t (.tmp 0),type:=t1,pos:=p1,after:=#[],guard:=none },{ dst:=some 2,op:=Op.assign (.const .nilFunc),type:=t2,pos:=p2,after:=#[],guard:=none }] false).seq
  ((Code.region i2 #[{ dst:=some 3,op:=Op.makeFunc (.func h) #[] #[.tmp 1],type:=t3,pos:=p3,after:=#[],guard:=none },{ dst:=some 2,op:=Op.assign (.tmp 3),type:=t4,pos:=p4,after:=af,guard:=none }] false).seq .ret)
theorem Zti{f:FuncId}{fi:FI}(hok:fi.Ok P f){i1 i2:Nat}{t t1 t2 t3 t4:TypeId}{h:FuncId}{p1 p2 p3 p4:String}{af:Array Edge}(hfi:fi=⟨4,[.tmp 2],ZrS i1 i2 t t1 t2 t3 t4 h p1 p2 p3 p4 af⟩):Ztr P f h:=by
 refine⟨hok.call,fun E objs v c g hs rc=>?_⟩
 obtain⟨E',hw,hS,g',st⟩:=ZsQ g c t
 have hone:=Zei hs rc
 have hcells:c.cells=#[c]:=by
  cases c<;>simp_all [Value.oneCell',Value.cells]
 obtain⟨fn,h1,h2,h3,h4,h5⟩:=hok
 subst hfi
 simp only at h2 h3 h4
 have hin:CallsIn (fz none) 0 P f #[c] E.w fun e w2=>∃ u E',e=.returned u∧E'.w=w2∧Z0 P E' objs∧Zcm E objs E' objs []∧E.w.drawn≤w2.drawn∧Rep P E' (.fn (.func h) [] [.er [v]]) u:=by
  refine callsIn_of_wp_marks h1 h2 trivial ?_
  rw[h3]
  unfold ZrS
  refine wpIn_seq (wpIn_region ?_)
  show wpOpsIn (fz none) 0 P _ _ [0,1] _ _
  simp only[wpOpsIn]
  simp[Region.wanted]
  refine ZsV (v:=.pointer (some ⟨E.w.heap.size,0,none⟩)) (w':=E'.w) (fun _ h=>by cases h) ?_ ?_
  ·show ((do let v ← Instr.box t _;pure (Next.value v):Sem Next)).run P E.w=_
   rw[hw]
   simp[Instr.box,newVar,newRow,Act.eval,hcells]
  ·refine ZsV (v:=.nilFunc) (w':=E'.w) (fun _ h=>by cases h) rfl ?_
   refine wpIn_seq (wpIn_region ?_)
   show wpOpsIn (fz none) 0 P _ _ [0,1] _ _
   simp only[wpOpsIn]
   simp[Region.wanted]
   refine ZsV (v:=.func (.func h) #[] #[.pointer (some ⟨E.w.heap.size,0,none⟩)]) (w':=E'.w) (fun _ h=>by cases h) ?_ ?_
   ·simp[execOp,Act.eval,Act.put,Instr.makeFunc]
   ·refine ZsV (v:=.func (.func h) #[] #[.pointer (some ⟨E.w.heap.size,0,none⟩)]) (w':=E'.w) (fun _ h=>by cases h) ?_ ?_
    ·rfl
    ·refine wpIn_ret ?_
     show LeavesInM _ _ _ _ _ _ _ _ _
     refine⟨.func (.func h) #[] #[.pointer (some ⟨E.w.heap.size,0,none⟩)],?_,?_⟩
     ·rw[ZjY,Array.mapM_eq_mapM_toList,h4]
      rfl
     ·refine⟨_,rfl,E',rfl,g',st,?_,.fn rfl rfl (fun j hj=>by cases hj) fun j hj=>?_⟩
      ·rw[hw];exact Nat.le_refl _
      ·match j,hj with
       | 0,_ =>
         refine .er (fun _=>c) hS (fun j hj=>?_) (fun j hj=>?_)
         ·have:j=0:=by simpa using hj
          subst this
          rw[ZcD (vals:=#[c]) (t:=t) (fr:=(0,0)) (by rw[hw];exact heap_alloc_new _ _)];rfl
         ·have:j=0:=by simpa using hj
          subst this
          exact rc.mono st.ext
 exact callsIn_wide.1 hin
end
end Go.Proofs.YtgpdnmfpgkkgcaaGreatDoor
