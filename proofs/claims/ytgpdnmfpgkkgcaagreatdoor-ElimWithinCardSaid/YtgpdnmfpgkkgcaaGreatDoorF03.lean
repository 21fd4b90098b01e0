/- Part of a proof that a law of the program holds for every input: how abstract states follow the program. No conditions. -/
import Derived.Test.YtgpdnmfpgkkgcaaGreatDoorF02
namespace Go.Proofs.YtgpdnmfpgkkgcaaGreatDoor
open Go
set_option linter.unusedVariables false
section
variable {P:Program} {τ:Zar} {κ:Z1} {φ:Nat→Option FX}
theorem ZuL {r : Option Nat} {cx : Cx} {R : ZjV} {c : Code} {body : St → (Exit → St → Prop) → Prop} {k : Exit → St → Prop}
 (hb:∀ (s:St) (k:Exit→St→Prop) (R:ZjV),body s k→∀ a w,Rel P cx s a w→(∀ e s' a' w',Inv s s'→k e s'→Rel P cx s' a' w'→R e a' w')→c.wpIn (fz r) 0 P R a w) :
 ∀ (n:Nat) (s:St),unW body n s k→∀ a w,Rel P cx s a w→(∀ e s' a' w',Inv s s'→k e s'→Rel P cx s' a' w'→R e a' w')→ZfP (fz r) P c R a w
 | 0,_,h,_,_,_,_=>h.elim
 | n+1,s,h,a,w,hr,hk=>ZfP.round (hb s _ _ h a w hr (fun e s' a' w' hi hq hr'=>by
  cases e with
  | normal=>exact ZuL hb n s' hq a' w' hr' (fun e s'' a'' w'' hi' hq' hr''=>hk e s'' a'' w'' (hi.trans hi') hq' hr'')
  | _=>exact hk _ s' a' w' hi hq hr'))
theorem ZqO(ops:Array Oper):ops.toList.map some=(List.range ops.size).map (fun i=>ops[i]?):=by
 apply List.ext_getElem?
 intro j
 simp only[List.getElem?_map,Array.getElem?_toList]
 by_cases h:j < ops.size
 ·rw[List.getElem?_range h];simp[h]
 ·rw[List.getElem?_eq_none (by simp;omega),Array.getElem?_eq_none (by omega)];rfl
theorem Zty (hτ : Zbs P τ) (hκ : Zak P κ) (hφ : ∀ g fi, φ g = some fi → fi.Ok P g) {D : DT} (hD : DOk P D) {run : ZiQ} (hrun : Zct P run) {A : An} {Y : List (Nat × An)} {r : Option Nat} {cx : Cx} :
 ∀ (c:Code) (b:Nat) (s:St) (k:Exit→St→Prop) (R:ZjV),Zem τ κ φ D run A Y r.isSome b c s k→∀ a w,Rel P cx s a w→(∀ e s' a' w',Inv s s'→k e s'→Rel P cx s' a' w'→R e a' w')→c.wpIn (fz r) 0 P R a w:=by
 intro c
 induction c with
 | skip=>intro b s k R h a w hr hk;exact wpIn_skip (hk _ s a w (.refl s) h hr)
 | label l=>intro b s k R h a w hr hk;exact wpIn_label (hk _ s a w (.refl s) h hr)
 | ret=>intro b s k R h a w hr hk;exact wpIn_ret (hk _ s a w (.refl s) h hr)
 | exit i=>intro b s k R h a w hr hk;exact wpIn_exit (hk _ s a w (.refl s) h hr)
 | goto l=>intro b s k R h a w hr hk;exact h.elim
 | refuse l=>intro b s k R h a w hr hk;exact h.elim
 | region id ops dr =>
   intro b s k R h a w hr hk
   simp only[Zem] at h
   obtain⟨s1,hi1,hr1,h⟩:=Zdm h hr
   cases dr with
   | false =>
     simp only at h
     refine wpIn_region ?_
     have:=Zon (Q:=R) hτ hκ (Zv8 (r:=r) (cx:=cx) hτ hφ hrun) (is:=List.range ops.size) (ZqO ops) h hr1 (fun s' a' w' hi hq hr'=>hk _ s' a' w' (hi1.trans hi) hq hr')
     exact this
   | true=>exact hD _ id ops s1 _ cx r R (Zv8 hτ hφ hrun) h a w hr1 (fun s' a' w' hi hq hr'=>hk _ s' a' w' (hi1.trans hi) hq hr')
 | seq c d ihc ihd =>
   intro b s k R h a w hr hk
   simp only[Zem] at h
   split at h
   ·refine wpIn_seq (ihc b s _ _ h a w hr (fun e s' a' w' hi hq hr'=>?_))
    cases e with
    | normal=>exact ihd b s' k R hq a' w' hr' (fun e s'' a'' w'' hi' hq' hr''=>hk e s'' a'' w'' (hi.trans hi') hq' hr'')
    | _=>exact hk _ s' a' w' hi hq hr'
   ·rename_i la hla
    refine wpIn_seq (ihc b s.clr _ _ h a w (Zro hr) (fun e s' a' w' hi hq hr'=>?_))
    have hd:Hd la s s':=(Hd.clr la s).inv hi
    have hmv:∀ l∈s.mv,l∈s'.mv:=fun l hl=>hi.mv l (by rw[ZwB];exact hl)
    cases e with
    | normal =>
      simp only at hq
      split at hq
      ·rename_i y hy
       have hr2:=ZoC hr hd hy hr'
       exact ihd b _ k R hq a' w' (ZnZ hr2) (fun e s'' a'' w'' hi' hq' hr''=>hk e s'' a'' w'' ((Zn0 (Hd.head la s y) Zrm).trans hi') hq' hr'')
      ·exact hq.elim
    | _=>exact hk _ _ a' w' (Zn0 hd hmv) hq (ZnZ hr')
 | cond x c d ihc ihd =>
   intro b s k R h a w hr hk
   simp only[Zem] at h
   split at h
   ·rename_i v hv
    obtain⟨E,rfl,r1⟩:=id hr
    have rx:=Zen r1.rep x
    rw[hv] at rx
    cases v with
    | true=>exact wpIn_cond rx.bool_inv (ihc b s k R h a _ hr hk)
    | false=>exact wpIn_cond rx.bool_inv (ihd b s k R h a _ hr hk)
   ·exact h.elim
 | block id c ih =>
   intro b s k R h a w hr hk
   simp only[Zem] at h
   refine wpIn_block (ih id s _ _ h a w hr (fun e s' a' w' hi hq hr'=>?_))
   cases e with
   | exit i =>
     simp only at hq
     simp only[Exit.inBlock]
     split at hq
     ·rename_i e
      rw[if_pos (Nat.eq_of_beq_eq_true e)]
      exact hk _ s' a' w' hi hq hr'
     ·rename_i e
      rw[if_neg (Nat.ne_of_beq_eq_false e)]
      exact hk _ s' a' w' hi hq hr'
   | _=>exact hk _ s' a' w' hi hq hr'
 | scope c ih =>
   intro b s k R h a w hr hk
   simp only[Zem] at h
   refine Ztb (ih b s _ _ h a w hr (fun e s' a' w' hi hq hr'=>?_))
   cases e with
   | goto l=>exact hq.elim
   | _=>exact hk _ s' a' w' hi hq hr'
 | loop c ih =>
   intro b s k R h a w hr hk
   simp only[Zem] at h
   split at h
   ·exact h.elim
   ·rename_i sg hsg
    replace hk:∀ e s' a' w',Inv sg s'→k e s'→Rel P cx s' a' w'→R e a' w':=fun e s' a' w' hi=>hk e s' a' w' ((Inv.ghosts hsg).trans hi)
    replace hr:=Zna hsg a w hr
    split at h
    ·split at h
     ·rename_i n hn
      exact (ZuL (fun s k R h a w hr hk=>ih b s k R h a w hr hk) n sg h a w hr hk).loop
     ·exact h.elim
    ·rename_i la hla
     have hr0:=Zg1 (P:=P) (cx:=cx) la.vs sg a w hr
     have hi0:=Inv.frzVs la.vs sg
     revert h hr0 hi0
     generalize frzVs la.vs sg=s0
     intro h hr0 hi0
     split at h
     ·exact h.elim
     ·rename_i y0 hy0
      have hfirst:Rel P cx (head la s0 y0) a w:=ZoC hr0 (Hd.clr la s0) hy0 (Zro hr0)
      refine ZfP.loop (h (fun y=>∀ a w,Rel P cx (head la s0 y) a w→ZfP (fz r) P c R a w) (fun y hy a w hr=>ZfP.round (ih b _ _ _ hy a w hr (fun e s' a' w' hi hq hr'=>?_))) a w hfirst)
      have hd:Hd la s0 s':=(Hd.head la s0 y).inv hi
      have hmv:∀ l∈s0.mv,l∈s'.mv:=fun l hl=>hi.mv l (Zrm l hl)
      cases e with
      | normal =>
        simp only at hq
        split at hq
        ·rename_i y' hy'
         exact hq a' w' (ZoC hr0 hd hy' hr')
        ·exact hq.elim
      | _=>exact hk _ _ a' w' (hi0.trans (Zn0 hd hmv)) hq (ZnZ hr')
 | rangeFunc g ps assign body =>
   intro b s k R h a w hr hk
   simp only[Zem] at h
   split at h
   ·exact h.elim
   ·rename_i hro
    have hrn:r=none:=by cases r with | none=>rfl | some _=>cases hro
    subst hrn
    obtain⟨nt,tmps,objs,nx,df,wr,di,mv⟩:=s
    simp only at h
    obtain⟨E,rfl,r1⟩:=hr
    refine wpIn_rangeFunc (fun fn _=>?_)
    obtain⟨E2,e1,e2,e3,r2⟩:=ZnQ r1 fn ps assign body
    have rg:Rep P E2 (evV tmps g) (a.eval g):=(Zen r1.rep g).mono e2
    have ry:Zby P E2 [.yl (nx+1)] [.func (.yield (E.w.heap.size+1)) #[] #[]]:=.cons (.yl e3) .nil
    obtain⟨gf,p,q,f1,f2,f3⟩:=Zph hτ hφ hrun h r2 rg ry
    rw[e1] at f3
    refine⟨E.w.heap.size+1,_,_,⟨.fn (.func gf) q,p++#[.func (.yield (E.w.heap.size+1)) #[] #[]]⟩,(E.w.alloc (.deferred (some []))).alloc (.loop { state:=.ready,pending:=none,fn,tmps:=a.tmps,params:=ps,assign,body,defers:=E.w.heap.size }),
     gf,p++#[.func (.yield (E.w.heap.size+1)) #[] #[]]++q,(E.w.alloc (.deferred (some []))).alloc (.loop { state:=.ready,pending:=none,fn,tmps:=a.tmps,params:=ps,assign,body,defers:=E.w.heap.size }),
     ZgU fn a.tmps ps assign body E.w,?_,fun _ _=>trivial,?_,fun h=>by simp[fz,Fence.wide] at h,?_⟩
    ·show (Deferred.ofValue (a.eval g) _).run P _=_
     rw[f1]
     simp[rangeCall,Deferred.ofValue,show ∀ c,a.eval (.const c)=c from fun _=>rfl]
    ·simp only[invoke]
     exact Zfh f2 _ _
    ·have f3':=fun R hR=>f3 R hR
     simp only[List.toArray] at f3'
     refine f3' _ (fun u v s3 E' hi hq hr' _ hx=>?_)
     refine ZrN hq hr' (fun hm=>?_) (fun e s' a' w' hi' hq' hr''=>hk e s' a' w' ?_ hq' hr'')
     ·exact hx _ _ hm e3
     ·refine Inv.trans ?_ (hi.trans hi')
      exact⟨rfl,by simp only;omega,fun _ h=>List.mem_cons_of_mem _ h,fun _ h=>List.mem_cons_of_mem _ (List.mem_cons_of_mem _ h),fun _ h=>h,fun _ _=>rfl,fun k hk=>by
       simp only[List.mem_cons,not_or] at hk
       simp only;rw[Zl,if_neg (Ne.symm hk.1),Zl,if_neg (Ne.symm hk.2.1)],fun hn=>by simp at hn⟩
def Zxz(τ:Zar)(κ:Z1)(φ:Nat→Option FX)(D:DT):Nat→ZiQ
 | 0,_,_,_,_,_,_=>False
 | n+1,A,Y,ro,c,s,k=>Zem τ κ φ D (Zxz τ κ φ D n) A Y ro 0 c s k
theorem Zrp(hτ:Zbs P τ)(hκ:Zak P κ)(hφ:∀ g fi,φ g=some fi→fi.Ok P g){D:DT}(hD:DOk P D):∀ n,Zct P (Zxz τ κ φ D n)
 | 0=>fun _ _ _ _ _ _ _ _ h=>h.elim
 | n+1=>fun A Y r c s k cx R h a w hr hk=>Zty hτ hκ hφ hD (Zrp hτ hκ hφ hD n) c 0 s k R h a w hr hk
end
section
variable {P:Program} {τ:Zar} {κ:Z1} {φ:Nat→Option FX}
def fnW(τ:Zar)(run:ZiQ)(A:An)(fi:FI)(ps:List PS)(rs:List Ty)(xs:Zcs ps)(Q:ZeI rs→Prop):Prop:=match fi with
 | ⟨nt,res,code⟩=>match Zj2 ps xs with
   | vs=>match Nat.ble vs.length nt with
     | false=>False
     | true=>run A [] false code ⟨nt,Zc7 0 vs,[],0,[],[],[],[]⟩ (fun e s=>match Zj4 e with
       | false=>False
       | true=>match Zgl τ res s with
         | none=>False
         | some (v,s2)=>match Zut 9 s2.objs [v] with
           | some ([v'],_)=>match Zog rs v' with
             | some r=>Q r
             | none=>False
           | _=>False)
def fnV(τ:Zar)(run:ZiQ)(A:An)(fi:FI)(ps:List PS)(xs:Zcs ps)(Q:V→Prop):Prop:=match fi with
 | ⟨nt,res,code⟩=>match Zj2 ps xs with
   | vs=>match Nat.ble vs.length nt with
     | false=>False
     | true=>run A [] false code ⟨nt,Zc7 0 vs,[],0,[],[],[],[]⟩ (fun e s=>match Zj4 e with
       | false=>False
       | true=>match Zgl τ res s with
         | none=>False
         | some (v,s2)=>match Zut 9 s2.objs [v] with
           | some ([v'],_)=>Q v'
           | _=>False)
theorem ZgI{w:World}{S:Nat→Prop}(hS:Sok P w S):Z7 P ⟨w,S,fun _=>none⟩ [] :=
 ⟨fun l o h=>(by cases h),fun b h=>(by obtain⟨l,o,L,h,_⟩:=h;cases h),hS.lt,hS.tab,fun i j o o' L L' h=>(by cases h)⟩
theorem ZmF (hτ : Zbs P τ) {run : ZiQ} (hrun : Zct P run) {A : An} {f : FuncId} {fi : FI} (hok : fi.Ok P f) {ps : List PS} {rs : List Ty} {xs : Zcs ps} {Q : ZeI rs → Prop} (h : fnW τ run A fi ps rs xs Q) {w : World} {S : Nat → Prop}
 (hS:Sok P w S) {args:Array Value} (ra:Zby P ⟨w,S,fun _=>none⟩ (Zj2 ps xs) args.toList) :
 Calls P f args w fun e w2=>∃ v S2 r,e=.returned v∧ZhY w S w2 S2∧Rep P ⟨w2,S2,fun _=>none⟩ (Zbo rs r) v∧Q r:=by
 obtain⟨nt,res,code⟩:=fi
 obtain⟨fn,h1,h2,h3,h4,h5⟩:=id hok
 unfold fnW at h
 simp only at h h3 h4
 split at h
 ·exact h.elim
 ·rename_i hlen
  have g0:Z7 P ⟨w,S,fun _=>none⟩ []:=ZgI hS
  have hrel:=ZeQ (nx:=0) (nt:=nt) g0 (fun _ _=>rfl) ra (Nat.le_of_ble_eq_true hlen)
  have hin:CallsIn (fz none) 0 P f args w fun e w2=>∃ v S2 r,e=.returned v∧ZhY w S w2 S2∧Rep P ⟨w2,S2,fun _=>none⟩ (Zbo rs r) v∧Q r:=by
   refine callsIn_of_wp_marks h1 h2 trivial ?_
   rw[h3]
   refine hrun A [] none code _ _ ⟨⟨w,S,fun _=>none⟩,[]⟩ _ h _ w hrel (fun e s1 a1 w1 hi hk hr1=>?_)
   have fin:Zj4 e=true→LeavesInM (fz none) 0 P fn a1.tmps (fun e w2=>∃ v S2 r,e=.returned v∧ZhY w S w2 S2∧Rep P ⟨w2,S2,fun _=>none⟩ (Zbo rs r) v∧Q r) a1.defers .returning w1:=fun he=>by
    rw[he] at hk
    simp only at hk
    split at hk
    ·exact hk.elim
    ·rename_i v s2 hf
     split at hk
     ·rename_i v' ks hl
      split at hk
      ·rename_i r hr
       refine ZgG hτ (fi:=⟨nt,res,code⟩) h4 hf hr1 (fun u E' haft hu=>?_)
       have hno:∀ b,¬ ZdI ⟨w,S,fun _=>none⟩ [] b:=fun b h=>(by obtain⟨l,o,L,h,_⟩:=h;cases h)
       obtain⟨S',k1,k2,_,k4,k5,k6⟩:=ZlM hl haft.good (.cons hu .nil)
       have st:=haft.step
       refine⟨u,S',r,rfl,⟨haft.drawn,st.os,st.tape,st.output,st.size,fun b hb=>st.frame b hb (hno b),fun b hb=>k1 b (st.ext.S b hb).1,fun b hb=>?_,k2⟩,Zoj (ZjR hr k5.head),hk⟩
       rcases k6 b hb with h | h
       ·rcases st.st b h with h | h | h
        ·exact .inl h
        ·exact .inr h
        ·exact absurd h (hno b)
       ·rcases st.own b h with h | h
        ·exact .inr h
        ·exact absurd h (hno b)
      ·exact hk.elim
     ·exact hk.elim
   cases e with
   | normal=>exact fin rfl
   | ret=>exact fin rfl
   | _=>exact hk.elim
  exact callsIn_wide.1 hin
theorem ZsY (hτ : Zbs P τ) {run : ZiQ} (hrun : Zct P run) {A : An} {f : FuncId} {fi : FI} (hok : fi.Ok P f) {ps : List PS} {xs : Zcs ps} {Q : V → Prop} (h : fnV τ run A fi ps xs Q) {w : World} {S : Nat → Prop}
 (hS:Sok P w S) {args:Array Value} (ra:Zby P ⟨w,S,fun _=>none⟩ (Zj2 ps xs) args.toList) :
 Calls P f args w fun e w2=>∃ v S2 r,e=.returned v∧ZhY w S w2 S2∧Rep P ⟨w2,S2,fun _=>none⟩ r v∧Q r:=by
 obtain⟨nt,res,code⟩:=fi
 obtain⟨fn,h1,h2,h3,h4,h5⟩:=id hok
 unfold fnV at h
 simp only at h h3 h4
 split at h
 ·exact h.elim
 ·rename_i hlen
  have g0:Z7 P ⟨w,S,fun _=>none⟩ []:=ZgI hS
  have hrel:=ZeQ (nx:=0) (nt:=nt) g0 (fun _ _=>rfl) ra (Nat.le_of_ble_eq_true hlen)
  have hin:CallsIn (fz none) 0 P f args w fun e w2=>∃ v S2 r,e=.returned v∧ZhY w S w2 S2∧Rep P ⟨w2,S2,fun _=>none⟩ r v∧Q r:=by
   refine callsIn_of_wp_marks h1 h2 trivial ?_
   rw[h3]
   refine hrun A [] none code _ _ ⟨⟨w,S,fun _=>none⟩,[]⟩ _ h _ w hrel (fun e s1 a1 w1 hi hk hr1=>?_)
   have fin:Zj4 e=true→LeavesInM (fz none) 0 P fn a1.tmps (fun e w2=>∃ v S2 r,e=.returned v∧ZhY w S w2 S2∧Rep P ⟨w2,S2,fun _=>none⟩ r v∧Q r) a1.defers .returning w1:=fun he=>by
    rw[he] at hk
    simp only at hk
    split at hk
    ·exact hk.elim
    ·rename_i v s2 hf
     split at hk
     ·rename_i v' ks hl
      ·refine ZgG hτ (fi:=⟨nt,res,code⟩) h4 hf hr1 (fun u E' haft hu=>?_)
       have hno:∀ b,¬ ZdI ⟨w,S,fun _=>none⟩ [] b:=fun b h=>(by obtain⟨l,o,L,h,_⟩:=h;cases h)
       obtain⟨S',k1,k2,_,k4,k5,k6⟩:=ZlM hl haft.good (.cons hu .nil)
       have st:=haft.step
       refine⟨u,S',v',rfl,⟨haft.drawn,st.os,st.tape,st.output,st.size,fun b hb=>st.frame b hb (hno b),fun b hb=>k1 b (st.ext.S b hb).1,fun b hb=>?_,k2⟩,Zkc (E:=⟨E'.w,S',E'.loc⟩) (E':=⟨E'.w,S',fun _=>none⟩) (fun b hb=>⟨hb,rfl⟩) k5.head (by simp only[fkL] at k4;split at k4<;>first | (cases k4;done) | assumption),hk⟩
       rcases k6 b hb with h | h
       ·rcases st.st b h with h | h | h
        ·exact .inl h
        ·exact .inr h
        ·exact absurd h (hno b)
       ·rcases st.own b h with h | h
        ·exact .inr h
        ·exact absurd h (hno b)
     ·exact hk.elim
   cases e with
   | normal=>exact fin rfl
   | ret=>exact fin rfl
   | _=>exact hk.elim
  exact callsIn_wide.1 hin
def Zms:(T:Ty)→T.den→Prop
 | .sl t,l=>List.length (α:=t.den) l≤9223372036854775807∧∀ x∈(l:List t.den),Zms t x
 | .pair a b,x=>Zms a x.1∧Zms b x.2
 | _,_=>True
def Zmp:(ps:List PS)→Zcs ps→Prop
 | [],_=>True
 | .d T::l,x=>Zms T x.1∧Zmp l x.2
 | .e T::l,x=>Zms T x.1∧Zmp l x.2
 | .f _ _::l,x=>Zmp l x.2
theorem ZeN{w:World}{S:Nat→Prop}:∀ {T:Ty} {x:T.den} {cs:List Value},ZbD w S T x cs→Zms T x
 | .int _,_,_,_=>trivial
 | .bool,_,_,_=>trivial
 | .str,_,_,_=>trivial
 | .unit,_,_,_=>trivial
 | .pair a b,x,cs,⟨c1,c2,_,h1,h2⟩=>⟨ZeN h1,ZeN h2⟩
 | .sl t,l,cs,⟨a,c,_,hc,hl⟩=>⟨Nat.le_trans hc.1 hc.2,fun x hx=>by
  obtain⟨i,hi⟩:=List.getElem?_of_mem hx
  obtain⟨b,off,_,_,h⟩:=hl (fun e=>by subst e;simp at hi)
  obtain⟨cs',h1,_⟩:=h i x hi
  exact ZeN h1⟩
theorem Zh8{E:Env}:∀ {T:Ty} {x:T.den},(∀ v∈flat T x,∃ c,Rep P E v c)→Zms T x
 | .int _,_,_=>trivial
 | .bool,_,_=>trivial
 | .str,_,_=>trivial
 | .unit,_,_=>trivial
 | .pair a b,x,h=>⟨Zh8 fun v hv=>h v (List.mem_append_left _ hv),Zh8 fun v hv=>h v (List.mem_append_right _ hv)⟩
 | .sl t,l,h=>by
   obtain⟨c,hc⟩:=h (.d (.sl t) l) (by simp[flat])
   exact ZeN (T:=.sl t) (ZhH hc)
theorem Ztq{E:Env}{vs:List V}{cs:List Value}(r:Zby P E vs cs){v:V}(hv:v∈vs):∃ c,Rep P E v c:=by
 obtain⟨i,hi⟩:=List.getElem?_of_mem hv
 have hlt:=(List.getElem?_eq_some_iff.1 hi).1
 have:=r.2 i hlt
 rw[List.getD_eq_getElem?_getD,hi] at this
 exact⟨_,this⟩
theorem Zve{E:Env}:∀ {T:Ty} {x:T.den} {c:Value},Rep P E (ZqK T x) c→Zms T x
 | .pair a b,x,c,r=>by
   obtain⟨ca,rfl,rs⟩:=Zoz (show Rep P E (.agg (flat (.pair a b) x)) c from r)
   exact Zh8 fun v hv=>Ztq rs hv
 | .int _,_,_,_=>trivial
 | .bool,_,_,_=>trivial
 | .str,_,_,_=>trivial
 | .unit,_,_,_=>trivial
 | .sl t,l,c,r=>ZeN (T:=.sl t) (ZhH r)
theorem Zfl{E:Env}:∀ {ps:List PS} {xs:Zcs ps} {cs:List Value},Zby P E (Zj2 ps xs) cs→Zmp ps xs
 | [],_,_,_=>trivial
 | .d T::l,x,c::cs,r=>⟨Zve r.head,Zfl r.tail⟩
 | .d T::l,x,[],r=>absurd r.1 (by simp[Zj2])
 | .e T::l,x,c::cs,r=>by
   refine⟨?_,Zfl r.tail⟩
   have h:Rep P E (.er (flat T x.1)) c:=r.head
   cases h with
   | er f _ _ hr =>
     refine Zh8 (P:=P) (E:=E) fun v hv=>?_
     obtain⟨i,hi⟩:=List.getElem?_of_mem hv
     have hlt:=(List.getElem?_eq_some_iff.1 hi).1
     have:=hr i hlt
     rw[List.getD_eq_getElem?_getD,hi] at this
     exact⟨_,this⟩
 | .e T::l,x,[],r=>absurd r.1 (by simp[Zj2])
 | .f _ _::l,x,c::cs,r=>Zfl (ps:=l) r.tail
 | .f _ _::l,x,[],r=>absurd r.1 (by simp[Zj2])
theorem Zua (hτ : Zbs P τ) {run : ZiQ} (hrun : Zct P run) {A : An} {f : FuncId} {fi : FI} (hok : fi.Ok P f) {ps : List PS} {rs : List Ty} {pre : Option (Zcs ps → Prop)} {fn : Zcs ps → ZeI rs}
 (h:∀ xs,Zmp ps xs→okP (Con.ob ⟨ps,pre,fun xs=>Zbo rs (fn xs)⟩ xs)→fnW τ run A fi ps rs xs (fun r=>r=fn xs)):ZQ P f ⟨ps,pre,fun xs=>Zbo rs (fn xs)⟩ :=
 ⟨hok.call,fun w S xs hS hp args ra=>Calls.mono (ZmF hτ hrun hok (h xs (Zfl ra) hp) hS ra) fun e w2 ⟨v,S2,r,h1,h2,h3,h4⟩=>⟨v,S2,h1,h2,by subst h4;exact h3⟩⟩
theorem Zm4 (hτ : Zbs P τ) {run : ZiQ} (hrun : Zct P run) {A : An} {f : FuncId} {fi : FI} (hok : fi.Ok P f) {c : Con}
 (h:∀ xs,Zmp c.ps xs→okP (c.ob xs)→fnV τ run A fi c.ps xs (fun r=>r=c.res xs)):ZQ P f c :=
 ⟨hok.call,fun w S xs hS hp args ra=>Calls.mono (ZsY hτ hrun hok (h xs (Zfl ra) hp) hS ra) fun e w2 ⟨v,S2,r,h1,h2,h3,h4⟩=>⟨v,S2,h1,h2,by subst h4;exact h3⟩⟩
end
section
variable {P:Program} {τ:Zar} {κ:Z1} {φ:Nat→Option FX}
def Zx2(n:Nat)(l:List Nat):List Nat:=match Zek n l with
 | true=>l
 | false=>n::l
def Zi6:List Nat→List Nat→List Nat
 | [],l=>l
 | n::r,l=>Zi6 r (Zx2 n l)
def ZfA(i:Nat)(T:List (Nat×List Nat)):List Nat:=match Zr2 i T with
 | some l=>l
 | none=>[]
def Zrh(T:List (Nat×List Nat)):List Edge→List Nat
 | []=>[]
 | e::r=>match Region.binds .any e with
   | true=>Zx2 e.on (Zi6 (ZfA e.on T) (Zrh T r))
   | false=>Zrh T r
def Zw9:Nat→List Oper→List (Nat×List Nat)→List (Nat×List Nat)
 | _,[],T=>T
 | i,⟨_,_,_,_,af,_⟩::r,T=>match Zrh T af.toList with
   | l=>Zw9 (i+1) r ((i,l)::T)
def ZvS(T:List (Nat×List Nat))(j:Nat):List Edge→Bool
 | []=>false
 | e::r=>match Region.binds .any e with
   | true=>match Nat.beq e.on j with
     | true=>true
     | false=>match Zek j (ZfA e.on T) with
       | true=>true
       | false=>ZvS T j r
   | false=>ZvS T j r
def Zv5(T:List (Nat×List Nat))(af:List Edge)(i:Nat):List Nat→Bool
 | []=>true
 | j::r=>match ZvS T j af with
   | true=>match Nat.blt j i with
     | true=>Zv5 T af i r
     | false=>false
   | false=>false
def inE(ps:List Nat):List Edge→Bool
 | []=>true
 | e::r=>match Region.binds .any e with
   | true=>match Zek e.on ps with
     | true=>inE ps r
     | false=>false
   | false=>inE ps r
def Znm(T:List (Nat×List Nat)):Nat→List Oper→Bool
 | _,[]=>true
 | i,⟨_,_,_,_,af,_⟩::r=>match ZfA i T with
   | ps=>match inE ps af.toList with
     | true=>match Zv5 T af.toList i ps with
       | true=>Znm T (i+1) r
       | false=>false
     | false=>false
theorem ZnC{ps:List Nat}:∀ {l:List Edge},inE ps l=true→∀ e∈l,Region.binds .any e=true→e.on∈ps
 | [],_,e,h,_=>by simp at h
 | e::r,h,e',he,hb=>by
   simp only[inE] at h
   split at h
   ·split at h
    ·rename_i h1
     rcases List.mem_cons.1 he with rfl | he
     ·exact ZbL.1 h1
     ·exact ZnC h e' he hb
    ·cases h
   ·rename_i h0
    rcases List.mem_cons.1 he with rfl | he
    ·rw[hb] at h0;cases h0
    ·exact ZnC h e' he hb
theorem ZpG{T:List (Nat×List Nat)}{j:Nat}:∀ {l:List Edge},ZvS T j l=true→∃ e∈l,Region.binds .any e=true∧(e.on=j∨j∈ZfA e.on T)
 | [],h=>by cases h
 | e::r,h=>by
   simp only[ZvS] at h
   have rec':ZvS T j r=true→∃ e'∈e::r,Region.binds .any e'=true∧(e'.on=j∨j∈ZfA e'.on T):=fun h=>by
    obtain⟨e',h1,h2⟩:=ZpG h;exact⟨e',List.mem_cons_of_mem _ h1,h2⟩
   split at h
   ·rename_i hb
    split at h
    ·rename_i h1;exact⟨e,by simp,hb,.inl (Nat.eq_of_beq_eq_true h1)⟩
    ·split at h
     ·rename_i h1;exact⟨e,by simp,hb,.inr (ZbL.1 h1)⟩
     ·exact rec' h
   ·exact rec' h
theorem Zmf{T:List (Nat×List Nat)}{af:List Edge}{i:Nat}:∀ {l:List Nat},Zv5 T af i l=true→∀ j∈l,ZvS T j af=true∧j < i
 | [],_,j,h=>by simp at h
 | k::r,h,j,hj=>by
   simp only[Zv5] at h
   split at h
   ·rename_i h1
    split at h
    ·rename_i h2
     rcases List.mem_cons.1 hj with rfl | hj
     ·exact⟨h1,Nat.le_of_ble_eq_true h2⟩
     ·exact Zmf h j hj
    ·cases h
   ·cases h
structure PT (ops:Array Oper) (T:List (Nat×List Nat)):Prop where
 lt:∀ i j,i < ops.size→j∈ZfA i T→j < i
 edge:∀ i o e,ops[i]?=some o→e∈o.after→Region.binds .any e=true→e.on∈ZfA i T
 back:∀ i o j,ops[i]?=some o→j∈ZfA i T→∃ e∈o.after,Region.binds .any e=true∧(e.on=j∨j∈ZfA e.on T)
theorem Zky{T:List (Nat×List Nat)}:∀ {l:List Oper} {i j:Nat} {o:Oper},Znm T i l=true→l[j]?=some o→inE (ZfA (i+j) T) o.after.toList=true∧Zv5 T o.after.toList (i+j) (ZfA (i+j) T)=true
 | [],_,_,_,_,h=>by simp at h
 | ⟨_,_,_,_,af,_⟩::r,i,j,o,h,hj=>by
   simp only[Znm] at h
   split at h
   ·rename_i h1
    split at h
    ·rename_i h2
     cases j with
     | zero=>simp at hj;subst hj;exact⟨h1,h2⟩
     | succ j =>
       have:=Zky (j:=j) h (by simpa using hj)
       rw[show i+1+j=i+(j+1) from by omega] at this
       exact this
    ·cases h
   ·cases h
theorem PT.of{ops:Array Oper}{T:List (Nat×List Nat)}(h:Znm T 0 ops.toList=true):PT ops T:=by
 have get:∀ i o,ops[i]?=some o→inE (ZfA i T) o.after.toList=true∧Zv5 T o.after.toList i (ZfA i T)=true:=fun i o hi=>by
  have:=Zky (i:=0) (j:=i) h (by simpa using hi)
  simpa using this
 refine⟨fun i j hi hj=>?_,fun i o e hi he hb=>ZnC (get i o hi).1 e (Array.mem_toList_iff.2 he) hb,fun i o j hi hj=>?_⟩
 ·exact (Zmf (get i ops[i] (Array.getElem?_eq_getElem hi)).2 j hj).2
 ·obtain⟨e,h1,h2,h3⟩:=ZpG (Zmf (get i o hi).2 j hj).1
  exact⟨e,Array.mem_toList_iff.1 h1,h2,h3⟩
structure Rc where
 i:Nat
 dst:Option Nat
 v:V
 ed:Zat
 ks:List Nat
def Znu:Zat→List Nat
 | []=>[]
 | (l,_)::r=>l::Znu r
theorem ZcU{l:Nat}:∀ {a b:Zat},Zv l (a++b)=(match Zv l a with | some o=>some o | none=>Zv l b)
 | [],_=>rfl
 | (k,o)::r,b=>by
   rw[List.cons_append,Zl,Zl]
   split
   ·rfl
   ·exact ZcU
theorem ZeY{l:Nat}{o:Obj}:∀ {a:Zat},Zv l a=some o→l∈Znu a
 | [],h=>by cases h
 | (k,p)::r,h=>by
   rw[Zl] at h
   split at h
   ·rename_i e;simp[Znu,e]
   ·exact List.mem_cons_of_mem _ (ZeY h)
def Rc.app(r:Rc)(s:St):St:=match r,s with
 | ⟨_, dst, v, ed, _⟩, ⟨nt, tmps, objs, nx, df, wr, di, mv⟩ => ⟨nt, (match dst with
  | some d=>(d,v)::tmps
  | none=>tmps),ed++objs,nx,df,(match dst with
  | some d=>d::wr
  | none=>wr),Znu ed++di,mv⟩
def replay(p:Nat→Bool):List Rc→St→St
 | [],s=>s
 | r::rs,s=>replay p rs (if p r.i then r.app s else s)
def ZeF(p:Nat→Bool)(t:Nat):List Rc→Option V
 | []=>none
 | r::rs=>match ZeF p t rs with
   | some v=>some v
   | none=>if p r.i=true∧r.dst=some t then some r.v else none
def Zeg(p:Nat→Bool)(l:Nat):List Rc→Option Obj
 | []=>none
 | r::rs=>match Zeg p l rs with
   | some o=>some o
   | none=>if p r.i=true then Zv l r.ed else none
theorem Zmh{r:Rc}{s:St}{t:Nat}:ZbE t (r.app s).tmps=if r.dst=some t then r.v else ZbE t s.tmps:=by
 obtain⟨i,dst,v,ed,ks⟩:=r
 cases s
 cases dst with
 | none=>simp[Rc.app]
 | some d=>simp[Rc.app,Zah]
theorem Zpx{r:Rc}{s:St}{l:Nat}:Zv l (r.app s).objs=(match Zv l r.ed with | some o=>some o | none=>Zv l s.objs):=by
 obtain⟨i,dst,v,ed,ks⟩:=r
 cases s
 simp only[Rc.app,ZcU]
theorem Zdw{p:Nat→Bool}{t:Nat}:∀ {R:List Rc} {s:St},ZbE t (replay p R s).tmps=(match ZeF p t R with | some v=>v | none=>ZbE t s.tmps)
 | [],_=>rfl
 | r::rs,s=>by
   simp only[replay,ZeF]
   rw[Zdw (R:=rs)]
   cases h:ZeF p t rs with
   | some v=>rfl
   | none =>
     simp only
     by_cases hp:p r.i=true
     ·rw[if_pos hp,Zmh]
      by_cases hd:r.dst=some t
      ·rw[if_pos hd,if_pos ⟨hp,hd⟩]
      ·rw[if_neg hd,if_neg (fun h=>hd h.2)]
     ·rw[if_neg hp,if_neg (fun h=>hp h.1)]
theorem Zdv{p:Nat→Bool}{l:Nat}:∀ {R:List Rc} {s:St},Zv l (replay p R s).objs=(match Zeg p l R with | some o=>some o | none=>Zv l s.objs)
 | [],_=>rfl
 | r::rs,s=>by
   simp only[replay,Zeg]
   rw[Zdv (R:=rs)]
   cases h:Zeg p l rs with
   | some v=>rfl
   | none =>
     simp only
     by_cases hp:p r.i=true
     ·rw[if_pos hp,if_pos hp,Zpx]
     ·rw[if_neg hp,if_neg hp]
theorem Zew{p:Nat→Bool}:∀ {R:List Rc} {s:St},(replay p R s).nt=s.nt∧(replay p R s).nx=s.nx∧(replay p R s).df=s.df∧(replay p R s).mv=s.mv
 | [],_=>⟨rfl,rfl,rfl,rfl⟩
 | r::rs,s=>by
   have h:=Zew (p:=p) (R:=rs) (s:=if p r.i then r.app s else s)
   have e:(if p r.i then r.app s else s).nt=s.nt∧(if p r.i then r.app s else s).nx=s.nx∧(if p r.i then r.app s else s).df=s.df∧(if p r.i then r.app s else s).mv=s.mv:=by
    split
    ·cases s;exact⟨rfl,rfl,rfl,rfl⟩
    ·exact⟨rfl,rfl,rfl,rfl⟩
   exact⟨h.1.trans e.1,h.2.1.trans e.2.1,h.2.2.1.trans e.2.2.1,h.2.2.2.trans e.2.2.2⟩
theorem ZfX{p q:Nat→Bool}{l:Nat}:∀ {R:List Rc},(∀ r∈R,∀ o,Zv l r.ed=some o→p r.i=q r.i)→Zeg p l R=Zeg q l R
 | [],_=>rfl
 | r::rs,h=>by
   simp only[Zeg]
   rw[ZfX (R:=rs) (fun r' hr'=>h r' (List.mem_cons_of_mem _ hr'))]
   have h0:=h r (by simp)
   cases hed:Zv l r.ed with
   | none=>simp
   | some x=>rw[h0 x hed]
theorem Zge{p q:Nat→Bool}{t:Nat}:∀ {R:List Rc},(∀ r∈R,r.dst=some t→p r.i=q r.i)→ZeF p t R=ZeF q t R
 | [],_=>rfl
 | r::rs,h=>by
   simp only[ZeF]
   rw[Zge (R:=rs) (fun r' hr'=>h r' (List.mem_cons_of_mem _ hr'))]
   by_cases hk:r.dst=some t
   ·rw[h r (by simp) hk]
   ·rw[if_neg (fun h=>hk h.2),if_neg (fun h=>hk h.2)]
theorem Rel.congr{cx:Cx}{s s':St}{a:Act}{E:Env}(r:ZcR P cx s a E)(ht:∀ t,ZbE t s'.tmps=ZbE t s.tmps)(ho:∀ l,Zv l s'.objs=Zv l s.objs)(hnt:s'.nt=s.nt)(hdf:s'.df=s.df)(hmv:s'.mv=s.mv)(hf:∀ l,s'.nx≤l→E.loc l=none):ZcR P cx s' a E:=by
 have tr:∀ l o,Zv l s'.objs=some o→∃ o1 L,Zv l s.objs=some o1∧E.loc l=some L∧E.loc l=some L∧(∀ L,o.has L→o1.has L)∧(ZaM P E L o1→ZaM P E L o):=fun l o h=>by
  rw[ho] at h
  obtain⟨L,hL,_⟩:=r.good.at_ l o h
  exact⟨o,L,h,hL,hL,fun _ h=>h,fun h=>h⟩
 exact⟨r.good.sub rfl rfl tr,hf,by rw[hmv];exact r.step.swap tr (fun l hl=>by rw[ho] at hl;exact hl),r.drawn,by rw[hnt];exact r.size,by rw[hdf];exact r.df,fun t=>by rw[ht];exact r.rep t⟩
end
section
variable {P:Program} {τ:Zar} {κ:Z1} {φ:Nat→Option FX}
mutual
def V.ks:V→List Nat
 | .fn _ a b=>Zi6 (ksL a) (ksL b)
 | .agg cs=>ksL cs
 | .tup cs=>ksL cs
 | .er cs=>ksL cs
 | .when _ v=>V.ks v
 | .opt _ v=>V.ks v
 | .ref k _=>[k]
 | .rref k _ _=>[k]
 | .osl k=>[k]
 | .osp k _ _=>[k]
 | .map k=>[k]
 | .yl k=>[k]
 | .bsl k _=>[k]
 | _=>[]
def ksL:List V→List Nat
 | []=>[]
 | v::r=>Zi6 (V.ks v) (ksL r)
end
def Zn2(objs:Zat):List Nat→Zat
 | []=>[]
 | l::r=>match Zv l objs with
   | some o=>(l,o)::Zn2 objs r
   | none=>Zn2 objs r
def Zlq(objs:Zat):List Nat→List Nat
 | []=>[]
 | l::r=>match Zv l objs with
   | some (.box cs) | some (.vrow _ _ cs _)=>Zi6 (ksL cs) (Zlq objs r)
   | _=>Zlq objs r
def Zv1(op:Op)(objs:Zat)(ks:List Nat):List Nat:=match op with
 | .load .. | .fieldAddr .. | .indexAddr ..=>ks
 | _=>match Zi6 (Zlq objs ks) ks with
   | k1=>Zi6 (Zlq objs k1) k1
theorem ZiC{objs:Zat}{l:Nat}{o:Obj}:∀ {ks:List Nat},Zv l (Zn2 objs ks)=some o→l∈ks∧Zv l objs=some o
 | [],h=>by cases h
 | k::r,h=>by
   simp only[Zn2] at h
   split at h
   ·rename_i p hp
    rw[Zl] at h
    split at h
    ·rename_i e;subst e;cases h;exact⟨by simp,hp⟩
    ·have:=ZiC h;exact⟨List.mem_cons_of_mem _ this.1,this.2⟩
   ·have:=ZiC h;exact⟨List.mem_cons_of_mem _ this.1,this.2⟩
def Zso(T:List (Nat×List Nat))(ds:List (Nat×Nat))(i:Nat)(base cur:List (Nat×V))(t:Nat):V:=match Zr2 t ds with
 | none=>ZbE t base
 | some j=>match Zek j (ZfA i T) with
   | true=>ZbE t cur
   | false=>match Nat.beq j i with
     | true=>ZbE t base
     | false=>match Zek i (ZfA j T) with
       | true=>ZbE t base
       | false=>.any
def Zox(T:List (Nat×List Nat))(ds:List (Nat×Nat))(i:Nat)(base cur:List (Nat×V)):List Operand→List (Nat×V)
 | []=>[]
 | .tmp t::r=>(t,Zso T ds i base cur t)::Zox T ds i base cur r
 | _::r=>Zox T ds i base cur r
theorem ZiT{T:List (Nat×List Nat)}{ds:List (Nat×Nat)}{i:Nat}{base cur:List (Nat×V)}{t:Nat}:∀ {l:List Operand},ZbE t (Zox T ds i base cur l)=Zso T ds i base cur t∨ZbE t (Zox T ds i base cur l)=.any
 | []=>.inr rfl
 | x::r=>by
   cases x with
   | tmp u =>
     simp only[Zox,Zah]
     split
     ·rename_i e;subst e;exact .inl rfl
     ·exact ZiT (l:=r)
   | _=>exact ZiT (l:=r)
def Zue(op:Op)(out:Out):Out:=match op with
 | .buildSlice _ (_+1) _=>match out with
   | ⟨ob,.osl k,some (l,.row T xs,false)⟩=>match Nat.beq k l with
     | true=>⟨ob,.d (.sl T) xs,some (l,.dead,false)⟩
     | false=>out
   | o=>o
 | _=>out
theorem ZrW(op:Op)(out:Out):(Zue op out).ob=out.ob:=by
 unfold Zue
 split
 ·split
  ·split<;>rfl
  ·rfl
 ·rfl
theorem Zo8{r:Option Nat}{o:Oper}{a:Act}{E:Env}{objs:Zat}{out:Out}(op:Op)(h:Did P r o a E objs out):Did P r o a E objs (Zue op out):=by
 unfold Zue
 split
 ·split
  ·rename_i ob k l T xs
   split
   ·rename_i hk
    have hk:=Nat.eq_of_beq_eq_true hk
    subst hk
    intro next Q hn
    refine h next Q (fun E' v g st hdr hv=>?_)
    have ho:Zv k ((k,Obj.row T xs)::objs)=some (.row T xs):=by rw[Zl,if_pos rfl]
    obtain⟨L,hL,_⟩:=g.at_ k _ ho
    obtain⟨g2,s2⟩:=g.still ho hL
    have hr:=ZiI g ho hL rfl (v:=.osl k) rfl hv
    simp only[frz,Nat.beq_refl] at hr
    have tr : ∀ l' o, Zv l' ((k, Obj.dead) :: objs) = some o → ∃ o1 L', Zv l' ((k, Obj.dead) :: (k, .row T xs) :: objs) = some o1 ∧ (E'.still L.b ((Obj.row T xs).has L)).loc l' = some L' ∧ (E'.still L.b ((Obj.row T xs).has L)).loc l' = some L' ∧ (∀ L, o.has L → o1.has L) ∧
     (ZaM P (E'.still L.b ((Obj.row T xs).has L)) L' o1→ZaM P (E'.still L.b ((Obj.row T xs).has L)) L' o):=by
     intro l' o h
     have:Zv l' ((k,Obj.dead)::(k,.row T xs)::objs)=some o:=by
      rw[Zl] at h ⊢
      split at h
      ·rename_i e;rw[if_pos e];exact h
      ·rename_i e;rw[if_neg e,Zl,if_neg e];exact h
     obtain⟨L',hL',_⟩:=g2.at_ l' o this
     exact⟨o,L',this,hL',hL',fun _ h=>h,fun h=>h⟩
    refine hn (E'.still L.b ((Obj.row T xs).has L)) v (g2.sub rfl rfl tr) (ZcH.swap (P:=P) (by simpa[moved,edit] using st.trans s2) tr (fun l' hl'=>?_)) hdr hr
    obtain⟨h1,h2⟩:=ZaJ hl'
    rw[Zl,if_neg (Ne.symm h1),Zl,if_neg (Ne.symm h1)];exact h2
   ·exact h
  ·exact h
 ·exact h
def edM(op:Op)(os:Zat)(n:Nat)(v:V):Option (Nat×Obj×Bool)→Option (V×Zat)
 | none=>some (v,[])
 | some (l,o,false)=>match Nat.beq l n with
   | true=>some (v,[(l,o)])
   | false=>match Zv l os with
     | some _=>some (v,[(l,o)])
     | none=>none
 | some (l,o,true)=>match op with
   | .call { callee:=.builtin .append,.. }=>match o with
     | .row T zs=>some (.osl n,[(n,.row T zs),(l,.dead)])
     | _=>none
   | .call { callee:=.value _,.. }=>match o with
     | .row T zs=>some (.osl n,[(n,.row T zs),(l,.dead)])
     | _=>none
   | _=>none
def Zxh:List Nat→Zat→List (Nat×V)→Option (List (Nat×V)×Zat×Zat)
 | [],os,tm=>some (tm,os,[])
 | k::r,os,tm=>match Zv k os with
   | some o=>match Zxh r ((k,.dead)::os) (ZcI (frz k o) tm) with
     | some (tm',os',ds)=>some (tm',os',ds++[(k,.dead)])
     | none=>none
   | none=>none
def Zxg(τ:Zar)(κ:Z1)(op:Op)(tm:List (Nat×V))(os:Zat)(n:Nat):Option (Option Prop×V×Zat):=match Zxh (Zqn τ κ op tm os) os tm with
 | none=>none
 | some (tm',os',ds)=>match ZuJ τ κ op tm' os' n with
   | none=>none
   | some out=>match Zue op out with
     | ⟨ob,v,ed⟩=>match edM op os' n v ed with
       | none=>none
       | some (v',es)=>some (ob,v',es++ds)
def Zyb(P:Program)(r:Option Nat)(o:Oper)(a:Act)(E:Env)(objs:Zat)(v:V)(es:Zat):Prop :=
 ∀ (next:Act→World→Prop) (Q:ZjV),(∀ E' u,Z7 P E' (es++objs)→ZcH E objs E' (es++objs) []→E.w.drawn≤E'.w.drawn→Rep P E' v u→next (a.put o.dst u) E'.w)→o.wpIn (fz r) 0 P a E.w next Q
theorem Sub.cons{os objs:Zat}(h:Sub os objs)(k:Nat)(o:Obj):Sub ((k,o)::os) ((k,o)::objs):=fun l x hx=>by
 rw[Zl] at hx ⊢
 split at hx
 ·rename_i e;rw[if_pos e];exact hx
 ·rename_i e;rw[if_neg e];exact h l x hx
theorem ZqP {ρ : Operand → Value} {ops : List Operand} (hρ : ∀ x, (∃ t, x = .tmp t) ∨ ∀ E tm, Rep P E (evV tm x) (ρ x)) : ∀ {ks : List Nat} {os objs : Zat} {tm tm' : List (Nat × V)} {os' ds : Zat} {E : Env}, Zxh ks os tm = some (tm', os', ds) → Sub os objs → Z7 P E objs → (∀ x ∈ ops, Rep P E (evV tm x) (ρ x)) →
 ∃ E',E'.w=E.w∧E'.loc=E.loc∧Z7 P E' (ds++objs)∧ZcH E objs E' (ds++objs) []∧Sub os' (ds++objs)∧(∀ x∈ops,Rep P E' (evV tm' x) (ρ x))∧(∀ l x,Zv l ds=some x→∃ y,Zv l os=some y)∧(∀ l x,Zv l os'=some x→∃ y,Zv l os=some y)
 | [],os,objs,tm,tm',os',ds,E,h,hs,g,hr=>by
   cases h
   exact⟨E,rfl,rfl,g,.refl _ _ _,hs,hr,fun l x h=>(by cases h),fun l x h=>⟨x,h⟩⟩
 | k::r,os,objs,tm,tm',os',ds,E,h,hs,g,hr=>by
   simp only[Zxh] at h
   split at h
   ·rename_i o ho
    split at h
    ·rename_i tm2 os2 ds2 h2
     cases h
     obtain⟨L,hL,_⟩:=g.at_ k o (hs k o ho)
     obtain⟨g1,s1⟩:=g.still (hs k o ho) hL
     have hx:Ext E (E.still L.b (o.has L)) []:=⟨fun b hs=>⟨.inl hs,rfl⟩,fun j K _ hK=>hK⟩
     have hr1:∀ x∈ops,Rep P (E.still L.b (o.has L)) (evV (ZcI (frz k o) tm) x) (ρ x):=fun x hx'=>by
      rcases hρ x with ⟨t,rfl⟩ | h
      ·show Rep P _ (ZbE t (ZcI _ tm)) _
       rw[ZcD,ZcS]
       exact Zcq hx.S (fun v c hr h=>ZiI g (hs k o ho) hL rfl hr h) (hr _ hx')
      ·exact h _ _
     obtain⟨E',e1,e2,g2,s2,k1,k2,k3,k4⟩:=ZqP hρ h2 (hs.cons k .dead) g1 hr1
     have ee:ds2++(k,Obj.dead)::objs=ds2++[(k,.dead)]++objs:=by simp
     rw[ee] at g2 s2 k1
     have back:∀ l,(∃ y,Zv l ((k,Obj.dead)::os)=some y)→∃ y,Zv l os=some y:=fun l ⟨y,hy⟩=>by
      rw[Zl] at hy
      split at hy
      ·rename_i e;subst e;exact⟨o,ho⟩
      ·exact⟨y,hy⟩
     refine⟨E',e1,e2,g2,by simpa using s1.trans s2,k1,k2,fun l x hl=>?_,fun l x hl=>back l (k4 l x hl)⟩
     rw[ZcU] at hl
     split at hl
     ·rename_i y hy;exact back l (k3 l y hy)
     ·rw[Zl] at hl
      split at hl
      ·rename_i e;subst e;exact⟨o,ho⟩
      ·cases hl
    ·cases h
   ·cases h
theorem ZoJ (hτ : Zbs P τ) (hκ : Zak P κ) {r : Option Nat} {o : Oper} {tm : List (Nat × V)} {os objs : Zat} {n : Nat} {ob : Option Prop} {v : V} {es : Zat} {E : Env} {a : Act} (h : Zxg τ κ o.op tm os n = some (ob, v, es)) (hs : Sub os objs) (ho : okP ob) (g : Z7 P E objs)
 (hf:E.loc n=none) (hr:∀ x∈o.op.operands,Rep P E (evV tm x) (a.eval x)):Zyb P r o a E objs v es∧(∀ l x,Zv l es=some x→l=n∨∃ y,Zv l os=some y):=by
 unfold Zxg at h
 split at h
 ·cases h
 ·rename_i tm' os' ds hfz
  have hρ:∀ x,(∃ t,x=Operand.tmp t)∨∀ E tm,Rep P E (evV tm x) (a.eval x):=fun x=>by
   cases x with
   | tmp t=>exact .inl ⟨t,rfl⟩
   | const v=>exact .inr fun E tm=>Zft v
   | global g=>exact .inr fun E tm=>.any _
   | func f=>exact .inr fun E tm=>.fn rfl rfl (fun j hj=>by simp at hj) (fun j hj=>by simp at hj)
  obtain⟨E1,e1,e2,g1,s1,k1,k2,k3,k4⟩:=ZqP (ops:=o.op.operands.toList) hρ hfz hs g (fun x hx=>hr x (Array.mem_toList_iff.1 hx))
  split at h
  ·cases h
  ·rename_i out he
   generalize hdat:Zue o.op out=out' at h
   obtain⟨ob',v0,ed⟩:=out'
   simp only at h
   split at h
   ·cases h
   ·rename_i v' es' hed
    cases h
    have hob:okP out.ob:=by rw[← ZrW o.op out,hdat];exact ho
    have hf1:E1.loc n=none:=by rw[e2];exact hf
    have hd0:=Zii (r:=r) (a:=a) hτ hκ he k1 hob g1 hf1 (fun x hx=>k2 x (Array.mem_toList_iff.2 hx))
    have hd1:=Zo8 o.op hd0
    rw[hdat] at hd1
    have plain:∀ es',(ed=none∧es'=[]∨∃ l x,ed=some (l,x,false)∧es'=[(l,x)])→Zyb P r o a E objs v0 (es'++ds):=by
     intro es' hes next Q hn
     have:=hd1 next Q
     rw[e1] at this
     refine this (fun E' u g' st hdr hu=>hn E' u ?_ ?_ hdr hu)
     ·rcases hes with ⟨rfl,rfl⟩ | ⟨l,x,rfl,rfl⟩
      ·exact g'
      ·exact g'
     ·rcases hes with ⟨rfl,rfl⟩ | ⟨l,x,rfl,rfl⟩
      ·simpa[edit,moved] using s1.trans st
      ·simpa[edit,moved] using s1.trans st
    have keys:∀ es',(∀ l x,Zv l es'=some x→l=n∨∃ y,Zv l os'=some y)→∀ l x,Zv l (es'++ds)=some x→l=n∨∃ y,Zv l os=some y:=fun es' hk l x hx=>by
     rw[ZcU] at hx
     split at hx
     ·rename_i y hy
      rcases hk l y hy with h | ⟨z,hz⟩
      ·exact .inl h
      ·exact .inr (k4 l z hz)
     ·exact .inr (k3 l x hx)
    unfold edM at hed
    split at hed
    ·cases hed
     exact⟨plain [] (.inl ⟨rfl,rfl⟩),keys [] (fun l x h=>by cases h)⟩
    ·rename_i l x
     split at hed
     ·rename_i hb
      cases hed
      exact⟨plain _ (.inr ⟨l,x,rfl,rfl⟩),keys _ (fun l' x' h=>by
       rw[Zl] at h
       split at h
       ·rename_i e;rw[← e];exact .inl (Nat.eq_of_beq_eq_true hb)
       ·cases h)⟩
     ·split at hed
      ·rename_i y hy
       cases hed
       exact⟨plain _ (.inr ⟨l,x,rfl,rfl⟩),keys _ (fun l' x' h=>by
        rw[Zl] at h
        split at h
        ·rename_i e;rw[← e];exact .inr ⟨y,hy⟩
        ·cases h)⟩
      ·cases hed
    ·rename_i l x
     obtain⟨dst,op,ty,po,af,guard⟩:=o
     split at hed
     ·rename_i args tys hop
      split at hed
      ·rename_i T zs
       cases hed
       simp only at hop
       subst hop
       have hdo:out=⟨ob,v0,some (l,.row T zs,true)⟩:=by rw[← hdat];rfl
       subst hdo
       simp only[ZuJ,eff] at he
       obtain⟨al⟩:=args
       obtain⟨tl⟩:=tys
       simp only[Zhg] at he
       split at he
       ·split at he
        ·rename_i t u _ x y e3
         obtain⟨b,c,rfl,rfl,rfl⟩:=ZeR e3
         have rb:=k2 b (by simp[Op.operands,Call.operands])
         have rc:=k2 c (by simp[Op.operands,Call.operands])
         obtain⟨rfl,L,xs,c1,c2,w,K,row,c3,c4,c5,c6,c7⟩:=Zj7 (ty:=ty) hτ he k1 hob g1 rb rc
         obtain⟨E',d1,d2,d3,d4⟩:=g1.remake c1 c2 hf1 c3 c4 c5 c6
         refine⟨fun next Q hn=>⟨fun _ _=>trivial,?_⟩,keys _ (fun l' x' h=>?_)⟩
         ·rw[Oper.semAt_eq _ _ _ (fun c=>by simp)]
          have hrun:(execOp a.eval ⟨dst,.call { callee:=.builtin .append,args:=⟨[b,c]⟩,argTypes:=⟨[t,u]⟩ },ty,po,af,guard⟩).run P E.w=.ok (.value K.v) E'.w:=by
           have:execOp a.eval ⟨dst,.call { callee:=.builtin .append,args:=⟨[b,c]⟩,argTypes:=⟨[t,u]⟩ },ty,po,af,guard⟩=(do let v ← Builtin.append_ #[t,u] ty #[a.eval b,a.eval c];pure (Next.value v)):=by simp[execOp,resolve,invoke,builtin]
           rw[this,← e1,d1]
           simp[c7]
          rw[hrun]
          exact hn E' K.v (by simpa using d3) (by simpa using s1.trans d4) (by rw[← e1];exact ZgQ _ _ _ _ (by rw[d1];exact c7)) (.osl d2)
         ·rw[Zl] at h
          split at h
          ·rename_i e;exact .inl e.symm
          ·rw[Zl] at h
           split at h
           ·rename_i e
            subst e
            refine .inr ?_
            unfold Zeb at he
            split at he
            ·split at he
             ·split at he
              ·split at he
               ·split at he
                ·cases he
                ·split at he
                 ·split at he
                  ·rename_i hcs _;cases he;exact⟨_,hcs⟩
                  ·cases he
                 ·cases he
                ·split at he
                 ·split at he
                  ·split at he
                   ·cases he
                   ·rename_i hcs _ _ _;cases he;exact⟨_,hcs⟩
                  ·cases he
                 ·cases he
                ·cases he
               ·cases he
              ·split at he
               ·split at he
                ·split at he
                 ·cases he
                 ·split at he
                  ·split at he
                   ·rename_i hcs _;cases he;exact⟨_,hcs⟩
                   ·cases he
                  ·cases he
                 ·cases he
                ·cases he
               ·cases he
             ·cases he
            ·cases he
           ·cases h
        ·cases he
       ·cases he
      ·cases hed
     ·rename_i x args tys hop
      split at hed
      ·rename_i T zs
       cases hed
       simp only at hop
       subst hop
       have hdo:out=⟨ob,v0,some (l,.row T zs,true)⟩:=by rw[← hdat];rfl
       subst hdo
       simp only[ZuJ] at he
       split at he
       ·rename_i rc hrc
        obtain⟨gf,q1,q2,T0,q3⟩:=ZrB hκ hrc he k1 hob g1 (k2 x (by simp[Op.operands,Call.operands])) (ZcB fun y hy=>k2 y (by simp only[Op.operands,Call.operands];simp[Array.mem_toList_iff.1 hy]))
        rcases q3 with ⟨_,_,q4,_⟩ | ⟨l',L,xs,zs',q0,hL,q4,q5,hc⟩
        ·cases q4
        ·obtain⟨rfl,hzz,_⟩:l=l'∧Obj.row T zs=Obj.row T0 zs'∧True:=by
          have:=Option.some.inj q5
          simp only[Prod.mk.injEq] at this
          exact⟨this.1,this.2.1,trivial⟩
         cases hzz
         refine⟨fun next Q hn=>?_,keys _ (fun l' x' h=>?_)⟩
         ·have hwp:=ZjG (r:=r) (o:=⟨dst,.call { callee:=.value x,args:=args,argTypes:=tys },ty,po,af,guard⟩) (a:=a) (E:=E1) rfl q1 q2 hc (next:=next) (Q:=Q) (by
           rintro e w2 ⟨K,rfl,row,c3,c4,c5,c6,c7⟩
           obtain⟨E',d1,d2,d3,d4⟩:=g1.remake (k1 _ _ q0) hL hf1 c3 c4 c5 c6
           refine⟨_,rfl,?_⟩
           rw[← d1]
           exact hn E' K.v (by simpa using d3) (by simpa using s1.trans d4) (by rw[← e1,d1];exact c7) (.osl d2))
          rw[e1] at hwp
          exact hwp
         ·rw[Zl] at h
          split at h
          ·rename_i e;exact .inl e.symm
          ·rw[Zl] at h
           split at h
           ·rename_i e;subst e;exact .inr ⟨_,q0⟩
           ·cases h
       ·split at he
        ·unfold Zps at he
         split at he
         ·split at he
          ·split at he<;>cases he
          ·cases he
         ·split at he
          ·split at he<;>cases he
          ·cases he
        ·split at he<;>cases he
      ·cases hed
     ·cases hed
def edG(n:Nat):Option (Nat×Obj×Bool)→Option Zat
 | none=>some []
 | some (l,.dead,false)=>match Nat.beq l n with
   | true=>some [(l,.dead)]
   | false=>none
 | _=>none
def Zv7(τ:Zar)(κ:Z1)(dec g:Bool)(i:Nat)(dst:Option Nat)(op:Op)(tm:List (Nat×V))(os:Zat)(ks:List Nat)(n:Nat):Option (Option Prop×Rc):=match dec with
 | false=>none
 | true=>match g with
   | true=>match Zxg τ κ op (Zrb op tm) os n with
     | some (ob,v,es)=>some (Zhe true (ZhS op tm) ob,⟨i,dst,v,es,Znu es++(V.ks v++ks)⟩)
     | none=>none
   | false=>some (none,⟨i,dst,.when false (.d .bool false),[],ks⟩)
theorem ZuE{dec g:Bool}{i:Nat}{dst:Option Nat}{op:Op}{tm:List (Nat×V)}{os:Zat}{ks:List Nat}{n:Nat}{ob:Option Prop}{rc:Rc}(h:Zv7 τ κ dec g i dst op tm os ks n=some (ob,rc)):rc.i=i∧rc.dst=dst:=by
 unfold Zv7 at h
 split at h
 ·cases h
 ·split at h
  ·split at h
   ·cases h;exact⟨rfl,rfl⟩
   ·cases h
  ·cases h;exact⟨rfl,rfl⟩
def ZvY(τ:Zar)(κ:Z1)(dec:Bool)(T:List (Nat×List Nat))(ds:List (Nat×Nat))(ops:List Oper)(n0:Nat)(base:List (Nat×V))(i:Nat)(o:Oper)(cur:St):Option (Option Prop×Rc):=match o,cur with
 | ⟨dst,op,_,_,_,guard⟩,⟨_,tmps,objs,_,_,_,_,_⟩=>match Zox T ds i base tmps op.operands.toList with
   | tm=>match Zv1 op objs (ksL (Zb4 tm op.operands.toList)) with
     | ks=>match Zn2 objs ks with
       | os=>match guard with
         | none=>match Zxg τ κ op tm os (n0+i) with
           | some (ob,v,es)=>some (ob,⟨i,dst,v,es,Znu es++(V.ks v++ks)⟩)
           | none=>none
         | some (j,want)=>match Zws ops j with
           | none=>none
           | some gd=>match Zjc want (Zso T ds i base tmps gd) with
             | none=>none
             | some g=>match ZuJ τ κ op (Zrb op tm) os (n0+i) with
               | some out=>match Zue op out with
                 | ⟨ob,v,ed⟩=>match edG (n0+i) ed with
                   | some es=>some (Zhe g (ZhS op tm) ob,⟨i,dst,.when g v,es,Znu es++(V.ks v++ks)⟩)
                   | none=>Zv7 τ κ dec g i dst op tm os ks (n0+i)
               | none=>Zv7 τ κ dec g i dst op tm os ks (n0+i)
def Zkr(τ:Zar)(κ:Z1)(dec:Bool)(T:List (Nat×List Nat))(ds:List (Nat×Nat))(ops:List Oper)(n0:Nat)(base:List (Nat×V)):Nat→List Oper→St→Option (List (Option Prop)×List Rc×St)
 | _,[],s=>some ([],[],s)
 | i,o::r,s=>match ZvY τ κ dec T ds ops n0 base i o s with
   | none=>none
   | some (ob,rc)=>match rc.app s with
     | ⟨nt,tmps,objs,nx,df,wr,di,mv⟩=>match Zkr τ κ dec T ds ops n0 base (i+1) r ⟨nt,tmps,objs,nx,df,wr,di,mv⟩ with
       | none=>none
       | some (obs,R,s')=>some (ob::obs,rc::R,s')
def Zxw:List (Option Prop)→Prop→Prop
 | [],k=>k
 | ob::r,k=>ZvB ob (Zxw r k)
theorem ZpB{k:Prop}:∀ {l:List (Option Prop)},Zxw l k→(∀ ob∈l,okP ob)∧k
 | [],h=>⟨fun ob hb=>by simp at hb,h⟩
 | ob::r,h=>by
   obtain⟨h1,h2⟩:=ZlT h
   obtain⟨h3,h4⟩:=ZpB h2
   exact⟨fun q hq=>(List.mem_cons.1 hq).elim (fun e=>e▸h1) (h3 q),h4⟩
theorem Zev{p:Nat→Bool}:∀ {A B:List Rc} {s:St},replay p (A++B) s=replay p B (replay p A s)
 | [],_,_=>rfl
 | r::rs,B,s=>by simp only[List.cons_append,replay];exact Zev
theorem Zf0{p:Nat→Bool}:∀ {B:List Rc} {s:St},(∀ r∈B,p r.i=false)→replay p B s=s
 | [],_,_=>rfl
 | r::rs,s,h=>by
   simp only[replay]
   rw[h r (by simp)]
   exact Zf0 fun r' hr'=>h r' (List.mem_cons_of_mem _ hr')
theorem Zc2{p q:Nat→Bool}:∀ {B:List Rc} {s:St},(∀ r∈B,p r.i=q r.i)→replay p B s=replay q B s
 | [],_,_=>rfl
 | r::rs,s,h=>by
   simp only[replay]
   rw[h r (by simp)]
   exact Zc2 fun r' hr'=>h r' (List.mem_cons_of_mem _ hr')
theorem Zsj{dec:Bool}{T:List (Nat×List Nat)}{ds:List (Nat×Nat)}{ops:List Oper}{n0:Nat}{base:List (Nat×V)}{i:Nat}{o:Oper}{cur:St}{ob:Option Prop}{rc:Rc}(h:ZvY τ κ dec T ds ops n0 base i o cur=some (ob,rc)):rc.i=i∧rc.dst=o.dst:=by
 obtain⟨dst,op,ty,po,af,guard⟩:=o
 cases cur
 simp only[ZvY] at h
 split at h
 ·split at h
  ·cases h;exact⟨rfl,rfl⟩
  ·cases h
 ·split at h
  ·cases h
  ·split at h
   ·cases h
   ·split at h
    ·split at h
     ·cases h;exact⟨rfl,rfl⟩
     ·exact ZuE h
    ·exact ZuE h
theorem Zkq {dec : Bool} {T : List (Nat × List Nat)} {ds : List (Nat × Nat)} {ops : List Oper} {n0 : Nat} {base : List (Nat × V)} {s0 : St} : ∀ {l : List Oper} {i : Nat} {cur send : St} {R0 R' : List Rc} {obs : List (Option Prop)},
 Zkr τ κ dec T ds ops n0 base i l cur=some (obs,R',send)→(∀ r∈R0,r.i < i)→cur=replay (fun _=>true) R0 s0 →
 R'.Pairwise (fun a b=>a.i < b.i)∧(∀ r∈R',i≤r.i∧r.i < i+l.length)∧send=replay (fun _=>true) (R0++R') s0 ∧
  ∀ j o,l[j]?=some o→∃ ob rc,ZvY τ κ dec T ds ops n0 base (i+j) o (replay (fun k=>decide (k < i+j)) (R0++R') s0)=some (ob,rc)∧ob∈obs∧rc∈R'
 | [],i,cur,send,R0,R',obs,h,h1,h2=>by
   simp only[Zkr,Option.some.injEq,Prod.mk.injEq] at h
   obtain⟨rfl,rfl,rfl⟩:=h
   exact⟨.nil,fun r hr=>by simp at hr,by simpa using h2,fun j o hj=>by simp at hj⟩
 | o::r,i,cur,send,R0,R',obs,h,h1,h2=>by
   simp only[Zkr] at h
   split at h
   ·cases h
   ·rename_i ob rc hrc
    split at h
    ·cases h
    ·rename_i obs2 R2 s2 hg
     cases h
     have hi:=(Zsj hrc).1
     have ih:=Zkq (R0:=R0++[rc]) hg (fun r hr=>by
      rcases List.mem_append.1 hr with hr | hr
      ·exact Nat.lt_succ_of_lt (h1 r hr)
      ·simp at hr;subst hr;omega) (by
      rw[Zev,← h2];rfl)
     obtain⟨k0,k1,k2,k3⟩:=ih
     have e:R0++[rc]++R2=R0++rc::R2:=by simp
     rw[e] at k2 k3
     refine⟨List.pairwise_cons.2 ⟨fun r' hr'=>by have:=k1 r' hr';omega,k0⟩,fun r' hr'=>?_,k2,fun j o' hj=>?_⟩
     ·rcases List.mem_cons.1 hr' with rfl | hr'
      ·simp;omega
      ·have:=k1 r' hr';simp;omega
     ·cases j with
      | zero =>
        simp at hj;subst hj
        refine⟨ob,rc,?_,by simp,by simp⟩
        have:replay (fun k=>decide (k < i+0)) (R0++rc::R2) s0=cur:=by
         rw[Zev,Zf0,h2]
         ·exact Zc2 fun r' hr'=>by simpa using h1 r' hr'
         ·intro r' hr'
          rcases List.mem_cons.1 hr' with rfl | hr'
          ·simp;omega
          ·have:=k1 r' hr';simp;omega
        rw[this];exact hrc
      | succ j =>
        obtain⟨ob',rc',m1,m2,m3⟩:=k3 j o' (by simpa using hj)
        rw[show i+1+j=i+(j+1) from by omega] at m1
        exact⟨ob',rc',m1,List.mem_cons_of_mem _ m2,List.mem_cons_of_mem _ m3⟩
def ZqA:Zat→List Nat→Bool
 | [],_=>true
 | (l,_)::r,ks=>match Zek l ks with
   | true=>false
   | false=>ZqA r ks
theorem Zpn{l:Nat}{o:Obj}{ks:List Nat}:∀ {e:Zat},ZqA e ks=true→Zv l e=some o→l∉ks
 | [],_,h=>by cases h
 | (k,p)::r,hd,h=>by
   simp only[ZqA] at hd
   split at hd
   ·cases hd
   ·rename_i hk
    rw[Zl] at h
    split at h
    ·rename_i e;subst e;exact fun hm=>by rw[ZbL.2 hm] at hk;cases hk
    ·exact Zpn hd h
def ZnE(T:List (Nat×List Nat))(r:Rc):List Rc→Bool
 | []=>true
 | q::l=>match Zek r.i (ZfA q.i T) with
   | true=>ZnE T r l
   | false=>match Zek q.i (ZfA r.i T) with
     | true=>ZnE T r l
     | false=>match ZqA r.ed q.ks with
       | true=>match ZqA q.ed r.ks with
         | true=>ZnE T r l
         | false=>false
       | false=>false
def Zri(T:List (Nat×List Nat)):List Rc→Bool
 | []=>true
 | r::l=>match ZnE T r l with
   | true=>Zri T l
   | false=>false
def ZjO(nt:Nat)(ds:List (Nat×Nat)):List Rc→Bool
 | []=>true
 | ⟨i,some d,_,_,_⟩::l=>match Zr2 d ds with
   | some j=>match Nat.beq j i with
     | true=>match Nat.blt d nt with
       | true=>ZjO nt ds l
       | false=>false
     | false=>false
   | none=>false
 | _::l=>ZjO nt ds l
theorem ZiL{T:List (Nat×List Nat)}{r:Rc}:∀ {l:List Rc},ZnE T r l=true→∀ q∈l,r.i∈ZfA q.i T∨q.i∈ZfA r.i T∨(ZqA r.ed q.ks=true∧ZqA q.ed r.ks=true)
 | [],_,q,h=>by simp at h
 | q'::l,h,q,hq=>by
   simp only[ZnE] at h
   have key:(q=q'→r.i∈ZfA q.i T∨q.i∈ZfA r.i T∨(ZqA r.ed q.ks=true∧ZqA q.ed r.ks=true))→ZnE T r l=true→r.i∈ZfA q.i T∨q.i∈ZfA r.i T∨(ZqA r.ed q.ks=true∧ZqA q.ed r.ks=true) :=
    fun h1 h2=>(List.mem_cons.1 hq).elim h1 (ZiL h2 q)
   split at h
   ·rename_i h1;exact key (fun e=>.inl (e▸ZbL.1 h1)) h
   ·split at h
    ·rename_i h1;exact key (fun e=>.inr (.inl (e▸ZbL.1 h1))) h
    ·split at h
     ·rename_i h1
      split at h
      ·rename_i h2;exact key (fun e=>.inr (.inr (e▸⟨h1,h2⟩))) h
      ·cases h
     ·cases h
theorem Zjf{T:List (Nat×List Nat)}:∀ {l:List Rc},Zri T l=true→∀ r∈l,∀ q∈l,r=q∨r.i∈ZfA q.i T∨q.i∈ZfA r.i T∨(ZqA r.ed q.ks=true∧ZqA q.ed r.ks=true)
 | [],_,r,h,_,_=>by simp at h
 | x::l,h,r,hr,q,hq=>by
   simp only[Zri] at h
   split at h
   ·rename_i h1
    rcases List.mem_cons.1 hr with hr1 | hr1
    ·rcases List.mem_cons.1 hq with hq1 | hq1
     ·exact .inl (hr1.trans hq1.symm)
     ·rw[hr1];exact .inr (ZiL h1 q hq1)
    ·rcases List.mem_cons.1 hq with hq1 | hq1
     ·rw[hq1]
      rcases ZiL h1 r hr1 with h | h | h
      ·exact .inr (.inr (.inl h))
      ·exact .inr (.inl h)
      ·exact .inr (.inr (.inr ⟨h.2,h.1⟩))
     ·exact Zjf h r hr1 q hq1
   ·cases h
theorem ZcQ{nt:Nat}{ds:List (Nat×Nat)}:∀ {l:List Rc},ZjO nt ds l=true→∀ r∈l,∀ d,r.dst=some d→Zr2 d ds=some r.i∧d < nt
 | [],_,r,h,_,_=>by simp at h
 | ⟨i,dst,v,ed,ks⟩::l,h,r,hr,d,hd=>by
   cases dst with
   | none =>
     simp only[ZjO] at h
     rcases List.mem_cons.1 hr with rfl | hr
     ·cases hd
     ·exact ZcQ h r hr d hd
   | some d' =>
     simp only[ZjO] at h
     split at h
     ·rename_i j hj
      split at h
      ·rename_i h1
       split at h
       ·rename_i h2
        rcases List.mem_cons.1 hr with rfl | hr
        ·cases hd
         rw[hj,Nat.eq_of_beq_eq_true h1]
         exact⟨rfl,Nat.le_of_ble_eq_true h2⟩
        ·exact ZcQ h r hr d hd
       ·cases h
      ·cases h
     ·cases h
end
section
variable {P:Program} {τ:Zar} {κ:Z1} {φ:Nat→Option FX}
theorem ZhV{p:Nat→Bool}{l:Nat}:∀ {A B:List Rc},Zeg p l (A++B)=(match Zeg p l B with | some o=>some o | none=>Zeg p l A)
 | [],B=>by simp only[List.nil_append,Zeg];split<;>simp_all
 | r::A,B=>by
   simp only[List.cons_append,Zeg]
   rw[ZhV (A:=A)]
   cases h:Zeg p l B with
   | some o=>rfl
   | none=>rfl
theorem ZhN{p:Nat→Bool}{l:Nat}:∀ {A B:List Rc},ZeF p l (A++B)=(match ZeF p l B with | some o=>some o | none=>ZeF p l A)
 | [],B=>by simp only[List.nil_append,ZeF];split<;>simp_all
 | r::A,B=>by
   simp only[List.cons_append,ZeF]
   rw[ZhN (A:=A)]
   cases h:ZeF p l B with
   | some o=>rfl
   | none=>rfl
theorem Zkh{p:Nat→Bool}{l:Nat}:∀ {A:List Rc},(∀ r∈A,∀ o,Zv l r.ed=some o→p r.i=false)→Zeg p l A=none
 | [],_=>rfl
 | r::A,h=>by
   simp only[Zeg]
   rw[Zkh (A:=A) (fun r' hr'=>h r' (List.mem_cons_of_mem _ hr'))]
   cases hed:Zv l r.ed with
   | none=>simp
   | some x=>simp[h r (by simp) x hed]
theorem Zec{p:Nat→Bool}{t:Nat}:∀ {A:List Rc},(∀ r∈A,r.dst=some t→p r.i=false)→ZeF p t A=none
 | [],_=>rfl
 | r::A,h=>by
   simp only[ZeF]
   rw[Zec (A:=A) (fun r' hr'=>h r' (List.mem_cons_of_mem _ hr'))]
   simp only
   rw[if_neg]
   rintro⟨h1,h2⟩
   rw[h r (by simp) h2] at h1;cases h1
def Znt(L:Nat→Bool)(i:Nat):Nat→Bool:=fun j=>L j||decide (j=i)
theorem Zud (hτ : Zbs P τ) (hκ : Zak P κ) {dec : Bool} {r : Option Nat} {cx : Cx} {ops : Array Oper} {T : List (Nat × List Nat)} (hT : PT ops T) {ds : List (Nat × Nat)} {n0 i : Nat} {o : Oper} {ob : Option Prop} {rc : Rc} {R : List Rc} {s0 : St}
 (hi:ops[i]?=some o) (hrc:ZvY τ κ dec T ds ops.toList n0 s0.tmps i o (replay (fun k=>decide (k < i)) R s0)=some (ob,rc)) (ho:okP ob) (hmem:rc∈R) (hsort:R.Pairwise fun a b=>a.i < b.i) (hp:Zri T R=true) (hd:ZjO s0.nt ds R=true)
 (hlt:∀ q∈R,q.i < ops.size) (hnx:s0.nx=n0+ops.size) {L:Nat→Bool} (hL:L i=false) (hdown:∀ q∈R,L q.i=true→∀ j∈ZfA q.i T,(∃ q'∈R,q'.i=j)→L j=true) (hpi:∀ j∈ZfA i T,(∃ q'∈R,q'.i=j)→L j=true)
 {a:Act} {E:Env} (hr:ZcR P cx (replay L R s0) a E) (hf:∀ q∈R,L q.i=false→E.loc (n0+q.i)=none) {Q:ZjV} {K:Act→World→Prop}
 (hK:∀ a' E',ZcR P cx (replay (Znt L i) R s0) a' E'→(∀ q∈R,Znt L i q.i=false→E'.loc (n0+q.i)=none)→K a' E'.w):wpOpIn (fz r) 0 P ops Q i K a E.w:=by
 have hii:=(Zsj hrc).1
 have hdst:=(Zsj hrc).2
 have hilt:i < ops.size:=(Array.getElem?_eq_some_iff.1 hi).1
 have huniq:∀ q∈R,q.i=i→q=rc:=fun q hq e=>by
  rcases Zjf hp q hq rc hmem with h | h | h | _
  ·exact h
  ·rw[hii] at h;have:=hT.lt i q.i hilt h;omega
  ·rw[e] at h;rw[hii] at h;have:=hT.lt i i hilt h;omega
  ·obtain⟨A,B,hAB⟩:=List.append_of_mem hmem
   rw[hAB] at hsort hq
   rw[List.pairwise_append] at hsort
   obtain⟨_,h2,h3⟩:=hsort
   rcases List.mem_append.1 hq with h | h
   ·have:=h3 q h rc (by simp);omega
   ·rcases List.mem_cons.1 h with h | h
    ·exact h
    ·have:=(List.pairwise_cons.1 h2).1 q h;omega
 obtain⟨A,B,hAB⟩:=List.append_of_mem hmem
 have hA:∀ q∈A,q.i < i:=fun q hq=>by
  rw[hAB,List.pairwise_append] at hsort
  have:=hsort.2.2 q hq rc (by simp);omega
 have hB:∀ q∈B,i < q.i:=fun q hq=>by
  rw[hAB,List.pairwise_append] at hsort
  have:=(List.pairwise_cons.1 hsort.2.1).1 q hq;omega
 have hord:∀ q∈R,∀ l x,Zv l q.ed=some x→l∈rc.ks→(decide (q.i < i))=L q.i∨q=rc:=fun q hq l x hed hl=>by
  rcases Zjf hp q hq rc hmem with h | h | h | h
  ·exact .inr h
  ·rw[hii] at h
   have h1:=hT.lt i q.i hilt h
   have h2:=hpi q.i h ⟨q,hq,rfl⟩
   rw[h2];left;simpa using h1
  ·rw[hii] at h
   have h1:=hT.lt q.i i (hlt q hq) h
   left
   cases hLq:L q.i with
   | false=>simp;omega
   | true=>rw[hdown q hq hLq i h ⟨rc,hmem,hii⟩] at hL;cases hL
  ·exact absurd hl (Zpn h.1 hed)
 have hobj:∀ l∈rc.ks,Zv l (replay (fun k=>decide (k < i)) R s0).objs=Zv l (replay L R s0).objs:=fun l hl=>by
  rw[Zdv,Zdv,ZfX (p:=fun k=>decide (k < i)) (q:=L)]
  intro q hq x hed
  rcases hord q hq l x hed hl with h | h
  ·exact h
  ·subst h;rw[hii,hL];simp
 have hval:∀ t,Rep P E (Zso T ds i s0.tmps (replay (fun k=>decide (k < i)) R s0).tmps t) (a.tmps.getD t undef):=fun t=>by
  have hrep:=hr.rep t
  rw[Zdw] at hrep
  unfold Zso
  split
  ·rename_i hn
   rw[Zec] at hrep
   ·exact hrep
   ·intro q hq hqd
    rw[(ZcQ hd q hq t hqd).1] at hn;cases hn
  ·rename_i j hj
   have hq:∀ q∈R,q.dst=some t→q.i=j:=fun q hq hqd=>by
    have:=(ZcQ hd q hq t hqd).1
    rw[hj] at this;cases this;rfl
   split
   ·rename_i hm
    rw[Zdw,Zge (p:=fun k=>decide (k < i)) (q:=L)]
    ·exact hrep
    ·intro q hqm hqd
     have e:=hq q hqm hqd
     rw[e]
     have hm:=ZbL.1 hm
     rw[hpi j hm ⟨q,hqm,e⟩]
     have:=hT.lt i j hilt hm
     simpa using this
   ·split
    ·rename_i he
     have he:=Nat.eq_of_beq_eq_true he
     rw[Zec] at hrep
     ·exact hrep
     ·intro q hqm hqd
      rw[hq q hqm hqd,he];exact hL
    ·split
     ·rename_i hm
      have hm:=ZbL.1 hm
      rw[Zec] at hrep
      ·exact hrep
      ·intro q hqm hqd
       rw[hq q hqm hqd]
       cases hLj:L j with
       | false=>rfl
       | true =>
         have e:=hq q hqm hqd
         have:=hdown q hqm (by rw[e];exact hLj) i (by rw[e];exact hm) ⟨rc,hmem,hii⟩
         rw[hL] at this;cases this
     ·exact .any _
 have hdlt:∀ d,o.dst=some d→d < a.tmps.size:=fun d hdd=>by
  have:=(ZcQ hd rc hmem d (hdst.trans hdd)).2
  have h1:a.tmps.size=s0.nt:=hr.size.trans (Zew (p:=L) (R:=R) (s:=s0)).1
  rw[h1];exact this
 have behind : ∀ E' u, Z7 P E' (rc.ed ++ (replay L R s0).objs) → ZcH E (replay L R s0).objs E' (rc.ed ++ (replay L R s0).objs) [] → E.w.drawn ≤ E'.w.drawn → Rep P E' rc.v u →
  (∀ l x,Zv l rc.ed=some x→l=n0+i∨∃ y,Zv l (replay L R s0).objs=some y)→(∀ l x,Zv l rc.ed=some x→l∈rc.ks)→K (a.put o.dst u) E'.w:=by
  intro E' u g st hdr hu hkey hks
  obtain⟨e1,e2,e3,e4⟩:=Zew (p:=L) (R:=R) (s:=s0)
  obtain⟨f1,f2,f3,f4⟩:=Zew (p:=Znt L i) (R:=R) (s:=s0)
  have hnone:∀ l,E.loc l=none→l≠n0+i→E'.loc l=none:=fun l hl hne=>by
   have h1:Zv l (replay L R s0).objs=none:=by
    cases h:Zv l (replay L R s0).objs with
    | none=>rfl
    | some x=>obtain⟨K,hK,_⟩:=hr.good.at_ l x h;rw[hl] at hK;cases hK
   rw[st.dom l ?_]
   ·exact hl
   ·rw[ZcU]
    cases hed:Zv l rc.ed with
    | none=>exact h1
    | some x =>
      rcases hkey l x hed with h | ⟨z,hz⟩
      ·exact absurd h hne
      ·rw[h1] at hz;cases hz
  have hrel:ZcR P cx (rc.app (replay L R s0)) (a.put o.dst u) E':=by
   refine⟨?_,fun l hl=>?_,?_,Nat.le_trans hr.drawn hdr,?_,?_,fun t=>?_⟩
   ·have:(rc.app (replay L R s0)).objs=rc.ed++(replay L R s0).objs:=by generalize replay L R s0=q;cases q;rfl
    rw[this];exact g
   ·have hl:s0.nx≤l:=by
     have:(rc.app (replay L R s0)).nx=s0.nx:=by
      rw[← e2];generalize replay L R s0=q;cases q;rfl
     rw[this] at hl;exact hl
    exact hnone l (hr.fresh l (by rw[e2];exact hl)) (by omega)
   ·have:(rc.app (replay L R s0)).mv=(replay L R s0).mv:=by generalize replay L R s0=q;cases q;rfl
    rw[this]
    have e:(rc.app (replay L R s0)).objs=rc.ed++(replay L R s0).objs:=by generalize replay L R s0=q;cases q;rfl
    rw[e];simpa using hr.step.trans st
   ·have:(rc.app (replay L R s0)).nt=(replay L R s0).nt:=by generalize replay L R s0=q;cases q;rfl
    rw[this,← hr.size];cases o.dst<;>simp[Act.put]
   ·have:(rc.app (replay L R s0)).df=(replay L R s0).df:=by generalize replay L R s0=q;cases q;rfl
    have e:(a.put o.dst u).defers=a.defers:=by cases o.dst<;>rfl
    rw[this,e];exact hr.df.ext st.ext
   ·rw[Zmh,hdst]
    cases hdd:o.dst with
    | none=>exact (hr.rep t).mono st.ext
    | some d =>
      rw[ZpN (hdlt d hdd)]
      by_cases e:d=t
      ·subst e;rw[if_pos rfl,if_pos rfl];exact hu
      ·rw[if_neg (fun h=>e (by cases h;rfl)),if_neg e];exact (hr.rep t).mono st.ext
  refine hK _ E' ?_ (fun q hq hqf=>?_)
  ·refine Rel.congr hrel (fun t=>?_) (fun l=>?_) ?_ ?_ ?_ (fun l hl=>?_)
   ·
    rw[Zmh,Zdw,Zdw]
    by_cases e:rc.dst=some t
    ·rw[if_pos e]
     have hq:∀ q∈R,q.dst=some t→q=rc:=fun q hq hqd=>huniq q hq (by
      have h1:=(ZcQ hd q hq t hqd).1
      have h2:=(ZcQ hd rc hmem t e).1
      exact (Option.some.inj (h1.symm.trans h2)).trans hii)
     have hBn:ZeF (Znt L i) t B=none:=Zec fun q hqB hqd=>by
      have:=hq q (by rw[hAB];simp[hqB]) hqd
      have h1:=hB q hqB
      rw[this,hii] at h1;omega
     have:ZeF (Znt L i) t R=some rc.v:=by
      rw[hAB,ZhN]
      simp only[ZeF,hBn]
      rw[if_pos ⟨by simp[Znt,hii],e⟩]
     rw[this]
    ·rw[if_neg e]
     rw[Zge (p:=Znt L i) (q:=L)]
     intro q hq hqd
     have:q.i≠i:=fun h=>e (by rw[← huniq q hq h];exact hqd)
     simp[Znt,this]
   ·
    rw[Zpx,Zdv,Zdv]
    have other:Zv l rc.ed=none→Zeg (Znt L i) l R=Zeg L l R:=fun hn=>ZfX fun q hq x hed=>by
     have:q.i≠i:=fun h=>by rw[huniq q hq h,hn] at hed;cases hed
     simp[Znt,this]
    cases hed:Zv l rc.ed with
    | none=>rw[other hed]
    | some y =>
      simp only
      have hBn:Zeg (Znt L i) l B=none:=Zkh fun q hqB x hqe=>by
       have hqR:q∈R:=by rw[hAB];simp[hqB]
       have h1:=hB q hqB
       rcases hord q hqR l x hqe (hks l y hed) with h | h
       ·have h2:L q.i=false:=by rw[← h];simp;omega
        simp only[Znt,h2,Bool.false_or,decide_eq_false_iff_not];omega
       ·rw[h,hii] at h1;omega
      have:Zeg (Znt L i) l R=some y:=by
       rw[hAB,ZhV]
       simp only[Zeg,hBn,hed]
       rw[if_pos (by simp[Znt,hii])]
      rw[this]
   ·rw[f1,← e1];generalize replay L R s0=q;cases q;rfl
   ·rw[f3,← e3];generalize replay L R s0=q;cases q;rfl
   ·rw[f4,← e4];generalize replay L R s0=q;cases q;rfl
   ·rw[f2] at hl
    exact hnone l (hr.fresh l (by rw[e2];exact hl)) (by omega)
  ·simp only[Znt,Bool.or_eq_false_iff,decide_eq_false_iff_not] at hqf
   exact hnone _ (hf q hq hqf.1) (by omega)
 obtain⟨dst,op,ty,po,af,guard⟩:=o
 revert hrc hobj hval
 generalize hcur:replay (fun k=>decide (k < i)) R s0=cur
 obtain⟨ntc,tmpsc,objsc,nxc,dfc,wrc,dic,mvc⟩:=cur
 intro hobj hval hrc
 simp only[ZvY] at hrc
 have hsub:∀ ks:List Nat,(∀ l∈ks,l∈rc.ks)→Sub (Zn2 objsc ks) (replay L R s0).objs:=fun ks hks l x h=>by
  obtain⟨h1,h2⟩:=ZiC h
  rw[← hobj l (hks l h1)];exact h2
 have hops:∀ tm:List (Nat×V),tm=Zox T ds i s0.tmps tmpsc op.operands.toList→∀ x,Rep P E (evV tm x) (a.eval x):=fun tm e x=>by
  cases x with
  | tmp t =>
    show Rep P E (ZbE t tm) _
    rw[e]
    rcases ZiT (T:=T) (ds:=ds) (i:=i) (base:=s0.tmps) (cur:=tmpsc) (t:=t) (l:=op.operands.toList) with h | h
    ·rw[h];exact hval t
    ·rw[h];exact .any _
  | const v=>exact Zft v
  | global g=>exact .any _
  | func f=>exact .fn rfl rfl (fun j hj=>by simp at hj) (fun j hj=>by simp at hj)
 have hfi:E.loc (n0+i)=none:=by have:=hf rc hmem (by rw[hii];exact hL);rwa [hii] at this
 unfold wpOpIn
 rw[hi]
 simp only
 split at hrc
 ·rw[if_pos (by simp[Region.wanted])]
  split at hrc
  ·rename_i ob' v es he
   have hrc1:ob'=ob:=by cases hrc;rfl
   have hrc2:=(Prod.mk.inj (Option.some.inj hrc)).2
   subst hrc1
   have hks:∀ l∈Zv1 op objsc (ksL (Zb4 (Zox T ds i s0.tmps tmpsc op.operands.toList) op.operands.toList)),l∈rc.ks:=fun l hl=>by rw[← hrc2];simp[hl]
   have hrv:rc.v=v:=by rw[← hrc2]
   have hre:rc.ed=es:=by rw[← hrc2]
   obtain⟨hdid,hkeys⟩:=ZoJ (r:=r) (a:=a) (o:=⟨dst,op,ty,po,af,none⟩) hτ hκ he (hsub _ hks) ho hr.good hfi (fun x _=>hops _ rfl x)
   refine hdid _ Q (fun E' u k1 k2 kd k3=>?_)
   refine behind E' u (by rw[hre];exact k1) (by rw[hre];exact k2) kd (by rw[hrv];exact k3) (fun l x h=>?_) (fun l x h=>?_)
   ·rw[hre] at h
    rcases hkeys l x h with h | ⟨y,hy⟩
    ·exact .inl h
    ·exact .inr ⟨y,hsub _ hks l y hy⟩
   ·rw[hre] at h
    rw[← hrc2]
    exact List.mem_append_left _ (ZeY h)
  ·cases hrc
 ·rename_i j want
  split at hrc
  ·cases hrc
  ·rename_i gd hgd
   split at hrc
   ·cases hrc
   ·rename_i g hg
    have hw:=ZmW (o:=⟨dst,op,ty,po,af,some (j,want)⟩) rfl hgd hg (hval gd)
    rw[hw]
    have hdec : Zv7 τ κ dec g i dst op (Zox T ds i s0.tmps tmpsc op.operands.toList) (Zn2 objsc (Zv1 op objsc (ksL (Zb4 (Zox T ds i s0.tmps tmpsc op.operands.toList) op.operands.toList)))) (Zv1 op objsc (ksL (Zb4 (Zox T ds i s0.tmps tmpsc op.operands.toList) op.operands.toList))) (n0 + i) = some (ob, rc) →
     if g=true then Oper.wpIn (fz r) 0 P ⟨dst,op,ty,po,af,some (j,want)⟩ a E.w K Q else (∀ (f:FuncId),Oper.about P E.w a.eval ⟨dst,op,ty,po,af,some (j,want)⟩=some f→(fz r).fn f)∧K (a.put dst undef) E.w:=fun hrc=>by
     unfold Zv7 at hrc
     split at hrc
     ·cases hrc
     ·split at hrc
      ·rw[if_pos rfl]
       split at hrc
       ·rename_i ob' v es he
        have hrc1:Zhe true (ZhS op (Zox T ds i s0.tmps tmpsc op.operands.toList)) ob'=ob:=by cases hrc;rfl
        have hrc2:=(Prod.mk.inj (Option.some.inj hrc)).2
        have hks:∀ l∈Zv1 op objsc (ksL (Zb4 (Zox T ds i s0.tmps tmpsc op.operands.toList) op.operands.toList)),l∈rc.ks:=fun l hl=>by rw[← hrc2];simp[hl]
        have hrv:rc.v=v:=by rw[← hrc2]
        have hre:rc.ed=es:=by rw[← hrc2]
        have hob:=(Zdy (by rw[hrc1];exact ho) rfl).1
        have kc:=(Zdy (by rw[hrc1];exact ho) rfl).2
        obtain⟨hdid,hkeys⟩:=ZoJ (r:=r) (a:=a) (o:=⟨dst,op,ty,po,af,some (j,want)⟩) hτ hκ he (hsub _ hks) hob hr.good hfi (fun x hx=>ZiB hx (hops _ rfl x) kc)
        refine hdid _ Q (fun E' u k1 k2 kd k3=>?_)
        refine behind E' u (by rw[hre];exact k1) (by rw[hre];exact k2) kd (by rw[hrv];exact k3) (fun l x h=>?_) (fun l x h=>?_)
        ·rw[hre] at h
         rcases hkeys l x h with h | ⟨y,hy⟩
         ·exact .inl h
         ·exact .inr ⟨y,hsub _ hks l y hy⟩
        ·rw[hre] at h
         rw[← hrc2]
         exact List.mem_append_left _ (ZeY h)
       ·cases hrc
      ·rw[if_neg (by simp)]
       have hrc2:=(Prod.mk.inj (Option.some.inj hrc)).2
       have hrv:rc.v=.when false (.d .bool false):=by rw[← hrc2]
       have hre:rc.ed=[]:=by rw[← hrc2]
       exact⟨fun _ _=>trivial,behind E undef (by rw[hre];exact hr.good) (by rw[hre];exact .refl _ _ _) (Nat.le_refl _) (by rw[hrv];exact .when (fun e=>by cases e) (fun _=>rfl)) (fun l x h=>by rw[hre] at h;cases h) (fun l x h=>by rw[hre] at h;cases h)⟩
    split at hrc
    ·rename_i out he
     generalize hdat:Zue op out=out' at hrc
     obtain⟨ob',v,ed⟩:=out'
     simp only at hrc
     split at hrc
     ·rename_i es hed
      have hrc1:Zhe g (ZhS op (Zox T ds i s0.tmps tmpsc op.operands.toList)) ob'=ob:=by cases hrc;rfl
      have hrc2:=(Prod.mk.inj (Option.some.inj hrc)).2
      have hks:∀ l∈Zv1 op objsc (ksL (Zb4 (Zox T ds i s0.tmps tmpsc op.operands.toList) op.operands.toList)),l∈rc.ks:=fun l hl=>by rw[← hrc2];simp[hl]
      have hrv:rc.v=.when g v:=by rw[← hrc2]
      have hre:rc.ed=es:=by rw[← hrc2]
      have hcase:(ed=none∧es=[])∨(ed=some (n0+i,.dead,false)∧es=[(n0+i,.dead)]):=by
       unfold edG at hed
       split at hed
       ·cases hed;exact .inl ⟨rfl,rfl⟩
       ·split at hed
        ·rename_i l hb
         cases hed
         rw[Nat.eq_of_beq_eq_true hb]
         exact .inr ⟨rfl,rfl⟩
        ·cases hed
       ·cases hed
      have hkey:∀ l x,Zv l rc.ed=some x→l=n0+i∨∃ y,Zv l (replay L R s0).objs=some y:=fun l x h=>by
       rw[hre] at h
       rcases hcase with ⟨_,rfl⟩ | ⟨_,rfl⟩
       ·cases h
       ·rw[Zl] at h
        split at h
        ·rename_i e;exact .inl e.symm
        ·cases h
      have hksr:∀ l x,Zv l rc.ed=some x→l∈rc.ks:=fun l x h=>by
       rw[hre] at h
       rw[← hrc2]
       exact List.mem_append_left _ (ZeY h)
      cases g with
      | true =>
        rw[if_pos rfl]
        have hob:okP (Zue op out).ob:=by
         rw[hdat]
         exact (Zdy (by rw[hrc1];exact ho) rfl).1
        have kc:=(Zdy (by rw[hrc1];exact ho) rfl).2
        have hd0:=Zii (r:=r) (a:=a) (o:=⟨dst,op,ty,po,af,some (j,want)⟩) hτ hκ he (hsub _ hks) (by rw[← ZrW op out];exact hob) hr.good hfi (fun x hx=>ZiB hx (hops _ rfl x) kc)
        have hd1:=Zo8 op hd0
        rw[hdat] at hd1
        refine hd1 _ Q (fun E' u k1 k2 kd k3=>?_)
        refine behind E' u ?_ ?_ kd (by rw[hrv];exact .when (fun _=>k3) (fun e=>by cases e)) hkey hksr
        ·rw[hre]
         rcases hcase with ⟨rfl,rfl⟩ | ⟨rfl,rfl⟩
         ·exact k1
         ·exact k1
        ·rw[hre]
         rcases hcase with ⟨rfl,rfl⟩ | ⟨rfl,rfl⟩
         ·exact k2
         ·exact k2
      | false =>
        rw[if_neg (by simp)]
        refine⟨fun _ _=>trivial,?_⟩
        rcases hcase with ⟨rfl,rfl⟩ | ⟨rfl,rfl⟩
        ·exact behind E undef (by rw[hre];exact hr.good) (by rw[hre];exact .refl _ _ _) (Nat.le_refl _) (by rw[hrv];exact .when (fun e=>by cases e) (fun _=>rfl)) hkey hksr
        ·have ha:=hr.good.adopt (n:=n0+i) (K:=⟨0,none,0,0,0⟩) (o:=.dead) hfi trivial (fun h=>h.elim)
         exact behind (E.setL E.w (n0+i) ⟨0,none,0,0,0⟩) undef (by rw[hre];exact ha.1) (by rw[hre];exact ha.2 E _ [] (.refl _ _ _) (fun h=>h.elim)) (Nat.le_refl _) (by rw[hrv];exact .when (fun e=>by cases e) (fun _=>rfl)) hkey hksr
     ·exact hdec hrc
    ·exact hdec hrc
end
section
variable {P:Program} {τ:Zar} {κ:Z1} {φ:Nat→Option FX}
def ZtG:Nat→List Nat→Bool
 | 0,_=>true
 | n+1,l=>match Zek n l with
   | true=>ZtG n l
   | false=>false
theorem Zmt{l:List Nat}:∀ {n:Nat},ZtG n l=true→∀ j,j < n→j∈l
 | 0,_,j,h=>absurd h (by omega)
 | n+1,h,j,hj=>by
   simp only[ZtG] at h
   split at h
   ·rename_i h1
    by_cases e:j=n
    ·subst e;exact ZbL.1 h1
    ·exact Zmt h j (by omega)
   ·cases h
def Zk5(T:List (Nat×List Nat))(p:Nat):Nat→Nat→Bool
 | _,0=>true
 | i,c+1=>match ZtG p (ZfA i T) with
   | true=>Zk5 T p (i+1) c
   | false=>false
theorem ZjA{T:List (Nat×List Nat)}{p:Nat}:∀ {c i:Nat},Zk5 T p i c=true→∀ j,i≤j→j < i+c→∀ k,k < p→k∈ZfA j T
 | 0,i,_,j,h1,h2,_,_=>absurd h2 (by omega)
 | c+1,i,h,j,h1,h2,k,hk=>by
   simp only[Zk5] at h
   split at h
   ·rename_i hb
    by_cases e:j=i
    ·subst e;exact Zmt hb k hk
    ·exact ZjA h j (by omega) (by omega) k hk
   ·cases h
def ZwP:Nat→List Oper→List (Nat×Nat)
 | _,[]=>[]
 | i,⟨some d,_,_,_,_,_⟩::r=>(d,i)::ZwP (i+1) r
 | i,_::r=>ZwP (i+1) r
def ZkF{α:Type}:Nat→List α→List α×List α
 | 0,l=>([],l)
 | n+1,[]=>([],[])
 | n+1,x::l=>match ZkF n l with
   | (a,b)=>(x::a,b)
def Znk(τ:Zar)(κ:Z1)(dec:Bool)(T:List (Nat×List Nat))(ops:List Oper)(n p:Nat)(seg:List Oper)(s:St)(k:St→Prop):Prop:=match s with
 | ⟨nt,tmps,objs,nx,df,wr,di,mv⟩=>match Zkr τ κ dec T (ZwP p seg) ops nx tmps p seg ⟨nt,tmps,objs,nx+n,df,wr,di,mv⟩ with
   | none=>False
   | some (obs,R,s')=>match Zri T R with
     | false=>False
     | true=>match ZjO nt (ZwP p seg) R with
       | false=>False
       | true=>Zxw obs (k s')
def ZuN(ops:List Oper):List Oper→Option Nat
 | []=>none
 | ⟨_,_,_,_,_,some (j,_)⟩::_=>Zws ops j
 | _::r=>ZuN ops r
def Zxl(t:Nat)(b:Bool)(s:St):St:=match s with
 | ⟨nt,tmps,objs,nx,df,wr,di,mv⟩=>⟨nt,(t,.d .bool b)::tmps,objs,nx,df,t::wr,di,mv⟩
def ZsF(τ:Zar)(κ:Z1)(T:List (Nat×List Nat))(ops:List Oper)(n p:Nat)(seg:List Oper)(s:St)(k:St→Prop):Prop:=match s with
 | ⟨nt,tmps,objs,nx,df,wr,di,mv⟩=>match Zkr τ κ false T (ZwP p seg) ops nx tmps p seg ⟨nt,tmps,objs,nx+n,df,wr,di,mv⟩ with
   | some _=>Znk τ κ false T ops n p seg ⟨nt,tmps,objs,nx,df,wr,di,mv⟩ k
   | none=>match ZuN ops seg with
     | none=>False
     | some t=>match ZbE t tmps with
       | .d .bool b=>cond b (Znk τ κ true T ops n p seg (Zxl t true ⟨nt,tmps,objs,nx,df,wr,di,mv⟩) k) (Znk τ κ true T ops n p seg (Zxl t false ⟨nt,tmps,objs,nx,df,wr,di,mv⟩) k)
       | _=>False
theorem Zvu{cx:Cx}{s:St}{t:Nat}{b:Bool}(hv:ZbE t s.tmps=.d .bool b){a:Act}{w:World}(r:Rel P cx s a w):Inv s (Zxl t b s)∧Rel P cx (Zxl t b s) a w:=by
 obtain⟨nt,tmps,objs,nx,df,wr,di,mv⟩:=s
 obtain⟨E,rfl,r1⟩:=r
 have hl:∀ u,ZbE u ((t,V.d .bool b)::tmps)=ZbE u tmps:=fun u=>by
  rw[Zah]
  split
  ·rename_i e;rw[← e];exact hv.symm
  ·rfl
 refine⟨⟨rfl,Nat.le_refl _,fun _ h=>List.mem_cons_of_mem _ h,fun _ h=>h,fun _ h=>h,fun u hu=>hl u,fun _ _=>rfl,fun _=>rfl⟩,E,rfl,r1.good,r1.fresh,r1.step,r1.drawn,r1.size,r1.df,fun u=>?_⟩
 show Rep P E (ZbE u ((t,V.d .bool b)::tmps)) _
 rw[hl];exact r1.rep u
theorem ZpY {cx : Cx} {T : List (Nat × List Nat)} {ops : List Oper} {n p : Nat} {seg : List Oper} {s : St} {k : St → Prop} (h : ZsF τ κ T ops n p seg s k) {a : Act} {w : World} (r : Rel P cx s a w) :
 ∃ dec s1,Inv s s1∧Rel P cx s1 a w∧Znk τ κ dec T ops n p seg s1 k:=by
 obtain⟨nt,tmps,objs,nx,df,wr,di,mv⟩:=s
 unfold ZsF at h
 simp only at h
 split at h
 ·exact⟨false,_,.refl _,r,h⟩
 ·split at h
  ·exact h.elim
  ·rename_i t _
   split at h
   ·rename_i b hv
    obtain⟨h1,h2⟩:=Zvu (P:=P) (cx:=cx) (s:=⟨nt,tmps,objs,nx,df,wr,di,mv⟩) hv r
    cases b with
    | true=>exact⟨true,_,h1,h2,h⟩
    | false=>exact⟨true,_,h1,h2,h⟩
   ·exact h.elim
def ZpW(τ:Zar)(κ:Z1)(X:XT)(T:List (Nat×List Nat))(ops:List Oper)(n:Nat):List Nat→Nat→List Oper→St→(St→Prop)→Prop
 | [],p,rest,s,k=>match rest with
   | []=>k s
   | _=>False
 | q::qs,p,rest,s,k=>match Zk5 T q q (n - q) with
   | false=>False
   | true=>match Nat.beq q (p+1) with
     | true=>match rest with
       | []=>False
       | o::r=>Zmj τ κ X ops [o] [] s (fun s'=>ZpW τ κ X T ops n qs q r s' k)
     | false=>match ZkF (q - p) rest with
       | (seg,r)=>match Nat.beq (p+seg.length) q with
         | false=>False
         | true=>ZsF τ κ T ops n p seg s (fun s'=>ZpW τ κ X T ops n qs q r s' k)
theorem Zi8{α:Type}:∀ {n:Nat} {l:List α},(ZkF n l).1=l.take n∧(ZkF n l).2=l.drop n
 | 0,l=>⟨rfl,rfl⟩
 | n+1,[]=>⟨rfl,rfl⟩
 | n+1,x::l=>by
   have:=Zi8 (n:=n) (l:=l)
   simp only[ZkF,List.take_succ_cons,List.drop_succ_cons]
   exact⟨by rw[this.1],this.2⟩
theorem Inv.app(r:Rc)(s:St):Inv s (r.app s):=by
 obtain⟨i,dst,v,ed,ks⟩:=r
 obtain⟨nt,tmps,objs,nx,df,wr,di,mv⟩:=s
 refine⟨rfl,Nat.le_refl _,fun t ht=>?_,fun l hl=>?_,fun _ h=>h,fun t ht=>?_,fun l hl=>?_,fun _=>rfl⟩
 ·cases dst with
  | none=>exact ht
  | some d=>exact List.mem_cons_of_mem _ ht
 ·exact List.mem_append_right _ hl
 ·cases dst with
  | none=>rfl
  | some d =>
    have ht:t∉d::wr:=ht
    simp only[List.mem_cons,not_or] at ht
    show ZbE t ((d,v)::tmps)=_
    rw[Zah,if_neg (Ne.symm ht.1)]
 ·have hl:l∉Znu ed++di:=hl
  simp only[List.mem_append,not_or] at hl
  show Zv l (ed++objs)=_
  rw[ZcU]
  cases h:Zv l ed with
  | none=>rfl
  | some o=>exact absurd (ZeY h) hl.1
theorem Inv.replay(p:Nat→Bool):∀ (R:List Rc) (s:St),Inv s (replay p R s)
 | [],s=>.refl s
 | r::rs,s=>by
   simp only[YtgpdnmfpgkkgcaaGreatDoor.replay]
   split
   ·exact (Inv.app r s).trans (Inv.replay p rs _)
   ·exact Inv.replay p rs s
def Bd(n p:Nat)(listed:Array Bool):Prop:=listed.size=n∧∀ j,j < n→listed.getD j false=decide (j < p)
def cnt(n:Nat)(listed:Array Bool):Nat:=((List.range n).filter fun j=>!listed.getD j false).length
theorem Zvx{p p':Nat→Bool}{i:Nat}(hi:p i=true)(hi':p' i=false)(hp:∀ j,p' j=true→p j=true):∀ {l:List Nat},i∈l→(l.filter p').length < (l.filter p).length:=by
 have hle:∀ l:List Nat,(l.filter p').length≤(l.filter p).length:=by
  intro l
  induction l with
  | nil=>simp
  | cons x l ih =>
    simp only[List.filter_cons]
    split
    ·rename_i h;rw[if_pos (hp x h)];simpa using ih
    ·split
     ·simp;omega
     ·exact ih
 intro l h
 induction l with
 | nil=>cases h
 | cons x l ih =>
   simp only[List.filter_cons]
   rcases List.mem_cons.1 h with rfl | h
   ·rw[if_pos hi,if_neg (by rw[hi'];simp)]
    have:=hle l
    simp;omega
   ·have:=ih h
    split
    ·rename_i h';rw[if_pos (hp x h')];simpa using this
    ·split
     ·simp;omega
     ·exact this
theorem Zet{listed:Array Bool}{i j:Nat}(hi:i < listed.size):(listed.setIfInBounds i true).getD j false=(listed.getD j false||decide (j=i)):=by
 by_cases e:j=i
 ·subst e
  simp[Array.getD_eq_getD_getElem?,hi]
 ·rw[getD_set_ne false (Ne.symm e)];simp[e]
theorem Zq3{n i:Nat}{listed:Array Bool}(hs:listed.size=n)(hi:i < n)(hl:listed.getD i false=false):cnt n (listed.setIfInBounds i true) < cnt n listed:=by
 refine Zvx (i:=i) (by simp only[hl];rfl) (by rw[Zet (by omega)];simp) (fun j hj=>?_) (List.mem_range.2 hi)
 rw[Zet (by omega)] at hj
 cases h:listed.getD j false with
 | false=>rfl
 | true=>rw[h] at hj;cases hj
def Zwb(T:List (Nat×List Nat))(n:Nat)(listed:Array Bool):Prop:=∀ i,i < n→listed.getD i false=true→∀ j∈ZfA i T,listed.getD j false=true
theorem Zhr{ops:Array Oper}{T:List (Nat×List Nat)}(hT:PT ops T){listed:Array Bool}(hd:Zwb T ops.size listed){i:Nat}(hi:i∈Region.ready .any ops listed):i < ops.size∧listed.getD i true=false∧∀ j∈ZfA i T,listed.getD j false=true:=by
 obtain⟨h1,o,h2,h3⟩:=mem_ready.1 hi
 have hlt:i < ops.size:=(Array.getElem?_eq_some_iff.1 h2).1
 refine⟨hlt,h1,fun j hj=>?_⟩
 obtain⟨e,he,hb,hor⟩:=hT.back i o j h2 hj
 have hon:=h3 e he hb
 rcases hor with h | h
 ·rw[← h];exact hon
 ·exact hd e.on (Nat.lt_trans (hT.lt i e.on hlt (hT.edge i o e h2 he hb)) hlt) hon j h
theorem ZgW{listed:Array Bool}{n j:Nat}(hs:listed.size=n)(hj:j < n):listed.getD j true=listed.getD j false:=by
 rw[Array.getD_eq_getD_getElem?,Array.getD_eq_getD_getElem?,Array.getElem?_eq_getElem (by omega)];rfl
theorem Zpp{ops:Array Oper}{T:List (Nat×List Nat)}(hT:PT ops T){listed:Array Bool}(hs:listed.size=ops.size):∀ i,i < ops.size→listed.getD i false=false→Region.ready .any ops listed≠[]:=by
 intro i
 induction i using Nat.strongRecOn with
 | _ i ih =>
   intro hi hl hn
   have:i∈Region.ready .any ops listed:=mem_ready.2 ⟨by rw[ZgW hs hi];exact hl,ops[i],Array.getElem?_eq_getElem hi,fun e he hb=>by
    have hlt:=hT.lt i e.on hi (hT.edge i ops[i] e (Array.getElem?_eq_getElem hi) he hb)
    cases h:listed.getD e.on false with
    | true=>rfl
    | false=>exact absurd hn (ih e.on hlt (by omega) h)⟩
   rw[hn] at this
   cases this
theorem Zrd{ops:Array Oper}{T:List (Nat×List Nat)}(hT:PT ops T){p:Nat}{listed:Array Bool}(h:Bd ops.size p listed):Zwb T ops.size listed:=fun i hi hl j hj=>by
 have h1:=h.2 i hi
 rw[hl] at h1
 have h2:=hT.lt i j hi hj
 have h3:i < p:=by simpa using h1.symm
 rw[h.2 j (by omega)]
 simp;omega
theorem Zt1{ops:Array Oper}{T:List (Nat×List Nat)}(hT:PT ops T){listed:Array Bool}(hs:listed.size=ops.size)(hd:Zwb T ops.size listed){i:Nat}(hi:i∈Region.ready .any ops listed):Zwb T ops.size (listed.setIfInBounds i true):=fun j hj hl k hk=>by
 obtain⟨h1,h2,h3⟩:=Zhr hT hd hi
 rw[Zet (by omega)] at hl ⊢
 rcases Bool.or_eq_true_iff.1 hl with h | h
 ·rw[hd j hj h k hk];rfl
 ·have:j=i:=by simpa using h
  subst this
  rw[h3 k hk];rfl
end
section
variable {P:Program} {τ:Zar} {κ:Z1} {φ:Nat→Option FX}
theorem Zwr{F:Fence}{n:Nat}{o:Oper}{a:Act}{w:World}{K:Act→World→Prop}{Q Q':ZjV}(h:∀ c a w,Q' (.panic c) a w→Q (.panic c) a w)(h2:LetsOut Q'→LetsOut Q)(hh:o.wpIn F n P a w K Q'):o.wpIn F n P a w K Q:=by
 unfold Oper.wpIn at *
 refine⟨hh.1,?_⟩
 have hh:=hh.2
 generalize (o.semAt F.round a.eval).run P w=r at *
 cases r with
 | ok x w' =>
   cases x<;>simp only[Oper.uponIn] at hh ⊢ <;>
    first
     | exact hh
     | exact⟨hh.1,CallsIn.mono hh.2 (fun e w'' he=>by cases e<;>first | exact h _ _ _ he | exact h2 he | exact he)⟩
     | exact⟨hh.1,RowsIn.mono hh.2 (fun _ _ he=>he)⟩
     | exact⟨hh.1,RoundIn.mono hh.2 (fun e w'' he=>by cases e<;>first | exact h _ _ _ he | exact h2 he | exact he)⟩
 | halt x w'=>cases x<;>simp only[Oper.uponIn] at hh ⊢<;>first | exact hh | exact h _ _ _ hh
theorem Zuj{F:Fence}{n:Nat}{ops:Array Oper}{i:Nat}{a:Act}{w:World}{K:Act→World→Prop}{Q Q':ZjV}(h:∀ c a w,Q' (.panic c) a w→Q (.panic c) a w)(h2:LetsOut Q'→LetsOut Q)(hh:wpOpIn F n P ops Q' i K a w):wpOpIn F n P ops Q i K a w:=by
 unfold wpOpIn at *
 split
 ·rename_i ho;rw[ho] at hh;exact hh
 ·rename_i o ho
  rw[ho] at hh
  simp only at hh
  split
  ·rename_i hw;rw[if_pos hw] at hh;exact Zwr h h2 hh
  ·rename_i hw;rw[if_neg hw] at hh;exact hh
theorem ZlO (hτ : Zbs P τ) (hκ : Zak P κ) {r : Option Nat} {cx : Cx} {X : XT} (hX : XOk P r cx X) {ops : Array Oper} {T : List (Nat × List Nat)} (hT : PT ops T) {Q : ZjV} :
 ∀ (qs:List Nat) (p:Nat) (rest:List Oper) (s:St) (k:St→Prop),rest=ops.toList.drop p→p≤ops.size→(∀ i,p≤i→i < ops.size→∀ j,j < p→j∈ZfA i T)→ZpW τ κ X T ops.toList ops.size qs p rest s k →
  ∀ (fuel:Nat) (listed:Array Bool) (a:Act) (w:World),Bd ops.size p listed→cnt ops.size listed≤fuel→Rel P cx s a w→(∀ s' a' w',Inv s s'→k s'→Rel P cx s' a' w'→Q .normal a' w')→wpAnyIn (fz r) 0 P .any ops Q fuel listed a w
 | [],p,rest,s,k,hrest,hps,hbd,h,fuel,listed,a,w,hB,hc,hr,hk=>by
   simp only[ZpW] at h
   split at h
   ·have hp:p=ops.size:=by
     have:(ops.toList.drop p).length=0:=by rw[← hrest];rfl
     simp at this;omega
    have hrd:Region.ready .any ops listed=[]:=by
     refine List.eq_nil_iff_forall_not_mem.2 fun i hi=>?_
     obtain⟨h1,o,h2,_⟩:=mem_ready.1 hi
     have hlt:i < ops.size:=(Array.getElem?_eq_some_iff.1 h2).1
     rw[ZgW hB.1 hlt,hB.2 i hlt,hp] at h1
     simp at h1;omega
    have hq:=hk s a w (.refl s) h hr
    cases fuel with
    | zero=>exact⟨hrd,hq⟩
    | succ f=>exact⟨fun _=>hq,fun i hi=>by rw[hrd] at hi;cases hi⟩
   ·exact h.elim
 | q::qs,p,rest,s,k,hrest,hps,hbd,h,fuel,listed,a,w,hB,hc,hr,hk=>by
   simp only[ZpW] at h
   split at h
   ·exact h.elim
   ·rename_i hall
    have hbq:q≤ops.size→∀ i,q≤i→i < ops.size→∀ j,j < q→j∈ZfA i T:=fun hq i h1 h2 j hj=>ZjA hall i h1 (by omega) j hj
    split at h
    ·
     rename_i hqp
     have hqp:=Nat.eq_of_beq_eq_true hqp
     split at h
     ·exact h.elim
     ·rename_i o rst
      have hop:ops[p]?=some o:=by
       have:ops.toList[p]?=some o:=by
        have:=List.getElem?_drop (xs:=ops.toList) (i:=p) (j:=0)
        rw[← hrest] at this
        simpa using this.symm
       simpa using this
      have hlt:p < ops.size:=(Array.getElem?_eq_some_iff.1 hop).1
      have hrst:rst=ops.toList.drop q:=by
       have:=congrArg (List.drop 1) hrest
       rw[hqp];simpa[List.drop_drop] using this
      have hun:listed.getD p false=false:=by rw[hB.2 p hlt];simp
      have hB':Bd ops.size q (listed.setIfInBounds p true):=⟨by simpa using hB.1,fun j hj=>by
       rw[Zet (by rw[hB.1];exact hlt),hB.2 j hj,hqp]
       by_cases e:j=p
       ·subst e;simp
       ·have:(j < p+1)=(j < p):=by apply propext;omega
        simp[e,this]⟩
      have hcs:=Zq3 hB.1 hlt hun
      cases fuel with
      | zero=>omega
      | succ f =>
        refine⟨fun hn=>absurd hn (Zpp hT hB.1 p hlt hun),fun i hi=>?_⟩
        obtain⟨h1,h2,h3⟩:=Zhr hT (Zrd hT hB) hi
        have hip:i=p:=by
         rw[ZgW hB.1 h1,hB.2 i h1] at h2
         have h2:p≤i:=by simpa using h2
         by_cases e:i=p
         ·exact e
         ·have:=h3 p (hbq (by omega) i (by omega) h1 p (by omega))
          rw[hun] at this;cases this
        subst hip
        have:=Zon (Q:=fun e a w=>match e with | .normal=>wpAnyIn (fz r) 0 P .any ops Q f (listed.setIfInBounds i true) a w | e=>Q e a w) hτ hκ hX (ops:=ops) (l:=[o]) (is:=[i]) (by simp[hop]) h hr
         (fun s' a' w' hi' hq' hr'=>ZlO hτ hκ hX hT qs q rst s' k hrst (by omega) (hbq (by omega)) hq' f _ a' w' hB' (by omega) hr' (fun s'' a'' w'' hj hq'' hr''=>hk s'' a'' w'' (hi'.trans hj) hq'' hr''))
        rw[wpOpsIn_cons] at this
        exact Zuj (fun c a w h=>h) (fun ⟨a,w,h⟩=>⟨a,w,h⟩) this
    ·
     generalize hsp:ZkF (q - p) rest=sr at h
     obtain⟨seg,rst⟩:=sr
     simp only at h
     have hseg:seg=rest.take (q - p):=by rw[← (Zi8 (n:=q - p) (l:=rest)).1,hsp]
     have hrst:rst=rest.drop (q - p):=by rw[← (Zi8 (n:=q - p) (l:=rest)).2,hsp]
     split at h
     ·exact h.elim
     ·rename_i hlen
      have hlen:=Nat.eq_of_beq_eq_true hlen
      obtain⟨dec,s1,hi1,hr,h⟩:=ZpY h hr
      replace hk:∀ s' a' w',Inv s1 s'→k s'→Rel P cx s' a' w'→Q .normal a' w':=fun s' a' w' hi=>hk s' a' w' (hi1.trans hi)
      obtain⟨nt,tmps,objs,nx,df,wr,di,mv⟩:=s1
      unfold Znk at h
      simp only at h
      split at h
      ·exact h.elim
      ·rename_i obs R s' hg
       split at h
       ·exact h.elim
       ·rename_i hpairs
        split at h
        ·exact h.elim
        ·rename_i hds
         obtain⟨hobs,hrec⟩:=ZpB h
         obtain⟨k0,k1,k2,k3⟩:=Zkq (R0:=[]) (s0:=⟨nt,tmps,objs,nx+ops.size,df,wr,di,mv⟩) hg (fun _ h=>by simp at h) rfl
         simp only[List.nil_append] at k2 k3
         have hqs:q≤ops.size:=by
          have:seg.length≤rest.length:=by rw[hseg,List.length_take];exact Nat.min_le_right _ _
          have h2:rest.length=ops.size - p:=by rw[hrest,List.length_drop,Array.length_toList]
          omega
         have hsget:∀ j o,seg[j]?=some o→ops[p+j]?=some o:=fun j o hj=>by
          rw[hseg,List.getElem?_take] at hj
          split at hj
          ·rw[hrest,List.getElem?_drop] at hj;simpa using hj
          ·cases hj
         have hrst':rst=ops.toList.drop q:=by
          rw[hrst,hrest,List.drop_drop]
          congr 1
          omega
         have hRlt:∀ r∈R,r.i < ops.size:=fun r hr=>by have:=k1 r hr;omega
         have hinv0:Inv ⟨nt,tmps,objs,nx,df,wr,di,mv⟩ ⟨nt,tmps,objs,nx+ops.size,df,wr,di,mv⟩:=⟨rfl,by simp,fun _ h=>h,fun _ h=>h,fun _ h=>h,fun _ _=>rfl,fun _ _=>rfl,fun _=>rfl⟩
         have key : ∀ (fuel : Nat) (listed : Array Bool) (a : Act) (E : Env), listed.size = ops.size → Zwb T ops.size listed → (∀ j, j < p → listed.getD j false = true) → (∀ j, j < ops.size → q ≤ j → listed.getD j false = false) → cnt ops.size listed ≤ fuel →
          ZcR P cx (replay (fun j=>listed.getD j false) R ⟨nt,tmps,objs,nx+ops.size,df,wr,di,mv⟩) a E→(∀ r∈R,listed.getD r.i false=false→E.loc (nx+r.i)=none)→wpAnyIn (fz r) 0 P .any ops Q fuel listed a E.w:=by
          intro fuel
          induction fuel with
          | zero =>
            intro listed a E hs hd hlo hhi hc hr hf
            have hall':∀ j,j < ops.size→listed.getD j false=true:=fun j hj=>by
             cases hl:listed.getD j false with
             | true=>rfl
             | false =>
               have hm:j∈(List.range ops.size).filter fun j=>!listed.getD j false:=List.mem_filter.2 ⟨List.mem_range.2 hj,by simp only[hl];rfl⟩
               rw[List.eq_nil_of_length_eq_zero (Nat.le_zero.1 hc)] at hm
               cases hm
            have hBq:Bd ops.size q listed:=⟨hs,fun j hj=>by
             rw[hall' j hj]
             by_cases e:j < q
             ·simp[e]
             ·have:=hhi j hj (by omega);rw[hall' j hj] at this;cases this⟩
            refine ZlO hτ hκ hX hT qs q rst s' k hrst' hqs (hbq hqs) hrec 0 listed a E.w hBq hc ?_ (fun s'' a'' w'' hj hq'' hr''=>hk s'' a'' w'' ((hinv0.trans (by rw[k2];exact Inv.replay _ _ _)).trans hj) hq'' hr'')
            refine⟨E,rfl,?_⟩
            rw[k2,Zc2 (p:=fun _=>true) (q:=fun j=>listed.getD j false)]
            ·exact hr
            ·intro r hr;exact (hall' r.i (hRlt r hr)).symm
          | succ f ih =>
            intro listed a E hs hd hlo hhi hc hr hf
            by_cases hfull:∀ j,p≤j→j < q→listed.getD j false=true
            ·have hBq:Bd ops.size q listed:=⟨hs,fun j hj=>by
              by_cases e:j < q
              ·by_cases e2:j < p
               ·rw[hlo j e2];simp[e]
               ·rw[hfull j (by omega) e];simp[e]
              ·rw[hhi j hj (by omega)];simp[e]⟩
             refine ZlO hτ hκ hX hT qs q rst s' k hrst' hqs (hbq hqs) hrec (f+1) listed a E.w hBq hc ?_ (fun s'' a'' w'' hj hq'' hr''=>hk s'' a'' w'' ((hinv0.trans (by rw[k2];exact Inv.replay _ _ _)).trans hj) hq'' hr'')
             refine⟨E,rfl,?_⟩
             rw[k2,Zc2 (p:=fun _=>true) (q:=fun j=>listed.getD j false)]
             ·exact hr
             ·intro r hr
              have:=k1 r hr
              exact (hfull r.i this.1 (by omega)).symm
            ·have:∃ j,p≤j∧j < q∧listed.getD j false=false:=by
              refine Classical.byContradiction fun hn=>hfull fun j h1 h2=>?_
              cases hl:listed.getD j false with
              | true=>rfl
              | false=>exact absurd ⟨j,h1,h2,hl⟩ hn
             obtain⟨j,hj1,hj2,hj3⟩:=this
             refine⟨fun hn=>absurd hn (Zpp hT hs j (by omega) hj3),fun i hi=>?_⟩
             obtain⟨h1,h2,h3⟩:=Zhr hT hd hi
             rw[ZgW hs h1] at h2
             have hip:p≤i:=by
              refine Nat.le_of_not_lt fun hlt=>?_
              rw[hlo i hlt] at h2;cases h2
             have hiq:i < q:=by
              refine Nat.lt_of_not_le fun hle=>?_
              have:=h3 j (hbq hqs i hle h1 j hj2)
              rw[hj3] at this;cases this
             obtain⟨o,ho⟩:∃ o,seg[i - p]?=some o:=⟨seg[i - p],List.getElem?_eq_getElem (by omega)⟩
             have hio:=hsget _ _ ho
             rw[show p+(i - p)=i from by omega] at hio
             obtain⟨ob,rc,m1,m2,m3⟩:=k3 _ _ ho
             rw[show p+(i - p)=i from by omega] at m1
             refine Zud (L:=fun j=>listed.getD j false) (n0:=nx) hτ hκ hT hio m1 (hobs ob m2) m3 k0 hpairs hds hRlt rfl h2 (fun q hq hl j hj _=>hd q.i (hRlt q hq) hl j hj) (fun j hj _=>h3 j hj) hr hf (fun a' E' hr' hf'=>?_)
             have hset:∀ j,(listed.setIfInBounds i true).getD j false=Znt (fun j=>listed.getD j false) i j:=fun j=>by rw[Zet (by omega)];rfl
             refine ih (listed.setIfInBounds i true) a' E' (by simpa using hs) (Zt1 hT hs hd hi) (fun j hj=>?_) (fun j hj hqj=>?_) ?_ ?_ (fun q hq hl=>hf' q hq (by rw[← hset];exact hl))
             ·rw[Zet (by omega),hlo j hj];rfl
             ·rw[Zet (by omega),hhi j hj hqj];simp;omega
             ·have:=Zq3 hs h1 h2;omega
             ·rw[Zc2 (p:=fun j=>(listed.setIfInBounds i true).getD j false) (q:=Znt (fun j=>listed.getD j false) i)]
              ·exact hr'
              ·intro r _;exact hset r.i
         obtain⟨E,rfl,r1⟩:=hr
         refine key fuel listed a E hB.1 (Zrd hT hB) (fun j hj=>by rw[hB.2 j (by omega)];simpa using hj) (fun j hj hqj=>?_) hc ?_ (fun r hr _=>r1.fresh _ (by show nx≤nx+r.i;omega))
         ·have hqp:p≤q:=by omega
          rw[hB.2 j hj];simp;omega
         ·rw[Zf0]
          ·exact⟨r1.good,fun l hl=>r1.fresh l (by have:nx+ops.size≤l:=hl;show nx≤l;omega),r1.step,r1.drawn,r1.size,r1.df,r1.rep⟩
          ·intro r hr
           have:=k1 r hr
           rw[hB.2 r.i (hRlt r hr)];simp;omega
def Zwq(l:List Nat):Nat→Nat→Nat
 | 0,k=>k
 | f+1,k=>match Zek k l with
   | true=>Zwq l f (k+1)
   | false=>k
def ZrJ(T:List (Nat×List Nat)):Nat→Nat→Nat→List Nat→List Nat
 | 0,_,_,acc=>acc
 | i+1,n,m,acc=>match Zwq (ZfA i T) n 0 with
   | k=>match Nat.ble k m with
     | true=>match Nat.ble i k with
       | true=>match i with
         | 0=>acc
         | j+1=>ZrJ T i n k (i::acc)
       | false=>ZrJ T i n k acc
     | false=>match Nat.ble i m with
       | true=>match i with
         | 0=>acc
         | j+1=>ZrJ T i n m (i::acc)
       | false=>ZrJ T i n m acc
def Zt7(τ:Zar)(κ:Z1)(X:XT)(l:List Oper)(s:St)(k:St→Prop):Prop:=match l.length with
 | n=>match Zw9 0 l [] with
   | T=>match Znm T 0 l with
     | false=>False
     | true=>match ZrJ T n n n [n] with
       | qs=>ZpW τ κ X T l n qs 0 l s k
theorem Rel.drawn{cx:Cx}{s:St}{a:Act}{w:World}(h:Rel P cx s a w):Rel P cx s a { w with drawn:=w.drawn+1 }:=by
 obtain⟨E,rfl,r⟩:=h
 obtain⟨g,st⟩:=r.good.at (w:={ E.w with drawn:=E.w.drawn+1 }) rfl (Nat.le_succ _) rfl rfl rfl
 exact⟨E.at _,rfl,g,r.fresh,by simpa using r.step.trans st,Nat.le_trans r.drawn (Nat.le_succ _),r.size,r.df.ext st.ext,fun t=>(r.rep t).mono st.ext⟩
theorem Zuc (hτ : Zbs P τ) (hκ : Zak P κ) (hm : P.follows .mixedOrders = true) {r : Option Nat} {cx : Cx} {X : XT} (hX : XOk P r cx X) {id : Nat} {ops : Array Oper} {s : St} {k : St → Prop} {R : ZjV} (h : Zt7 τ κ X ops.toList s k) {a : Act} {w : World} (hr : Rel P cx s a w)
 (hk:∀ s' a' w',Inv s s'→k s'→Rel P cx s' a' w'→R .normal a' w'):(Code.region id ops true).wpIn (fz r) 0 P R a w:=by
 refine wpIn_region_any hm ?_
 unfold Zt7 at h
 simp only at h
 split at h
 ·exact h.elim
 ·rename_i hp
  refine ZlO hτ hκ hX (PT.of hp) _ 0 _ s k rfl (Nat.zero_le _) (fun i _ _ j hj=>absurd hj (by omega)) (by simpa using h) _ _ a _ ⟨by simp,fun j hj=>?_⟩ ?_ hr.drawn hk
  ·simp[Array.getD_eq_getD_getElem?,hj]
  ·refine Nat.le_trans (List.length_filter_le _ _) (by simp)
theorem ZtP(hτ:Zbs P τ)(hκ:Zak P κ)(hm:P.follows .mixedOrders=true):DOk P (Zt7 τ κ):=fun X id ops s k cx r R hX h a w hr hk=>Zuc hτ hκ hm hX h hr hk
abbrev walk(τ:Zar)(κ:Z1)(φ:Nat→Option FX):ZiQ:=Zxz τ κ φ (Zt7 τ κ) 8
theorem ZbC(hτ:Zbs P τ)(hκ:Zak P κ)(hφ:∀ g fi,φ g=some fi→fi.Ok P g)(hm:P.follows .mixedOrders=true):Zct P (walk τ κ φ):=Zrp hτ hκ hφ (ZtP hτ hκ hm) 8
end
section
variable {P:Program} {τ:Zar} {κ:Z1} {φ:Nat→Option FX}
def Zcu.{u}{α:Type u}(n:Nat):List (Nat×α)→Option α
 | []=>none
 | (m,x)::r=>match Nat.beq m n with
   | true=>some x
   | false=>Zcu n r
def Zb7(n:Nat):List (Nat×CX)→Option CX
 | []=>none
 | (m,x)::r=>match Nat.beq m n with
   | true=>some x
   | false=>Zb7 n r
theorem ZiY{α:Type}{n:Nat}{x:α}:∀ {l:List (Nat×α)},Zcu n l=some x→(n,x)∈l
 | [],h=>by cases h
 | (m,y)::r,h=>by
   simp only[Zcu] at h
   split at h
   ·rename_i e;cases h;rw[Nat.eq_of_beq_eq_true e];exact List.mem_cons_self
   ·exact List.mem_cons_of_mem _ (ZiY h)
theorem Zt4:Zak P (fun n=>Zb7 n []):=fun _ _ h=>by cases h
theorem Zk1{f:Nat}{c:CX}{l:List (Nat×CX)}(h:c.Ok P f)(k:Zak P (fun n=>Zb7 n l)):Zak P (fun n=>Zb7 n ((f,c)::l)):=fun g d hd=>by
 simp only[Zb7] at hd
 split at hd
 ·rename_i e;cases hd;rw[← Nat.eq_of_beq_eq_true e];exact h
 ·exact k g d hd
theorem Zj{f:Nat}{c:Con}{l:List (Nat×CX)}(h:ZQ P f c)(k:Zak P (fun n=>Zb7 n l)):Zak P (fun n=>Zb7 n ((f,.con c)::l)):=Zk1 (c:=.con c) h k
theorem ZpM{f:Nat}{r:ZqN}{l:List (Nat×CX)}(h:Zlk P f r)(k:Zak P (fun n=>Zb7 n l)):Zak P (fun n=>Zb7 n ((f,.row r)::l)):=Zk1 (c:=.row r) h k
theorem Lp.wf{σ:Type}{body:σ→(σ→Prop)→Prop}(I:σ→Prop)(μ:σ→Nat)(h:∀ y,I y→∀ R:σ→Prop,(∀ y',I y'→μ y' < μ y→R y')→body y R){x:σ}(hx:I x):Lp body x:=by
 intro R hR
 have key:∀ n y,μ y < n→I y→R y:=by
  intro n
  induction n with
  | zero=>exact fun y hn=>absurd hn (Nat.not_lt_zero _)
  | succ n ih=>exact fun y hn hy=>hR _ (h y hy R fun y' hy' hlt=>ih y' (by omega) hy')
 exact key (μ x+1) x (Nat.lt_succ_self _) hx
end
def ZoW:Ty→List Value
 | .int k=>[.int k 0]
 | .bool=>[.bool false]
 | .str=>[.string ByteArray.empty]
 | .sl _=>[.slice none 0 0]
 | .pair a b=>ZoW a++ZoW b
 | .unit=>[]
theorem Zhm(w:World)(S:Nat→Prop):∀ T:Ty,ZbD w S T T.dflt (ZoW T)
 | .int _=>rfl
 | .bool=>rfl
 | .str=>rfl
 | .sl _=>⟨none,0,rfl,⟨Nat.le_refl _,Nat.zero_le _⟩,fun h=>absurd rfl h⟩
 | .pair a b=>⟨_,_,rfl,Zhm w S a,Zhm w S b⟩
 | .unit=>rfl
theorem Ztm{P:Program}{l:List (Nat×TI)}(h:∀ p∈l,p.2.Ok P p.1):Zbs P (fun t=>Zcu t l):=fun t i ht=>h (t,i) (ZiY ht)
theorem Zr7{P:Program}{l:List (Nat×TI)}(h:∀ p∈l,p.2.Ok P p.1)(q:Nat×TI→Bool):Zbs P (fun t=>Zcu t (l.filter q)):=fun t i ht=>h (t,i) (List.mem_filter.1 (ZiY ht)).1
theorem TI.ok_mk {P : Program} {t : TypeId} {ti : TI} (h : (P.info? t).map (fun i => (i.size, i.bytes, i.zero.map fun z => (z.cells.toList, z.cells.size))) = some (ti.size, ti.bytes, some (ti.zero, ti.size)))
 (hk:match ti.k with
 | .int k=>P.underlying t=some (.int k)
 | .bool=>P.underlying t=some .bool
 | .str=>P.underlying t=some .string
 | .sl e=>P.underlying t=some (.slice e)
 | .arr n e=>P.underlying t=some (.array n e)∧∃ zs sz,(P.info? e).map (fun ie=>(ie.zero.map fun z=>z.cells.toList,ie.size))=some (some zs,sz)∧ti.zero=(List.replicate n zs).flatten∧ti.size=n*sz∧0 < n∧n≤9223372036854775807∧0 < sz
 | .st offs=>∃ fs,P.underlying t=some (.struct fs)∧fs.toList.map (fun f=>(f.offset,P.cellsOf f.type))=offs∧∀ p∈offs,p.2≠0
 | .ptr=>∃ e,P.underlying t=some (.pointer e)
 | .map k e=>P.underlying t=some (.map k e)∧(P.info? e).map (fun ie=>ie.zero.map fun z=>z.oneCell')=some (some true)
 | .fn=>∃ ps rs v,P.underlying t=some (.func ps rs v)
 | .other=>True) (hc:match ti.code with | some T=>T.size=ti.size∧0 < ti.size∧ZoW T=ti.zero | none=>True):ti.Ok P t:=by
 obtain⟨k,size,bytes,zero,code⟩:=ti
 refine⟨?_,?_,fun T hT=>?_⟩
 ·simp only[Option.map_eq_some_iff,Prod.mk.injEq] at h
  obtain⟨i,hi,h1,h2,h3⟩:=h
  obtain⟨z,hz,h4,h5⟩:=h3
  exact⟨i,z,hi,h1,h2,hz,h4,h5⟩
 ·cases k
  case arr n e =>
   obtain⟨h1,zs,sz,h2,h3⟩:=hk
   simp only[Option.map_eq_some_iff,Prod.mk.injEq] at h2
   obtain⟨ie,hie,⟨ze,hze,rfl⟩,rfl⟩:=h2
   exact⟨h1,ie,ze,hie,hze,h3⟩
  case map k e =>
   obtain⟨h1,h2⟩:=hk
   simp only[Option.map_eq_some_iff] at h2
   obtain⟨ie,hie,ze,hze,h3⟩:=h2
   exact⟨h1,ie,ze,hie,hze,h3⟩
  all_goals exact hk
 ·simp only at hT
  subst hT
  obtain⟨h1,h2,h3⟩:=hc
  exact⟨h1,h2,fun w S=>by simp only at h3;rw[← h3];exact Zhm w S T⟩
def ZiP(f:Func):FI:=⟨f.ntmps,f.results.toList,match f.body with | some c=>c | none=>.skip⟩
theorem Za9 {P : Program} {g : FuncId} {f : Func} (h : P.funcs[g]? = some f) (hb : f.body.isSome = true) (hn : (f.name == "runtime.NumGoroutine") = false) : (ZiP f).Ok P g := by
 refine⟨f,h,?_,rfl,rfl,hn⟩
 unfold ZiP
 cases hf:f.body with
 | some c=>rfl
 | none=>rw[hf] at hb;cases hb
theorem Zs9{P:Program}:∀ g fx,(fun n=>Zcu n ([]:List (Nat×FX))) g=some fx→fx.Ok P g:=fun _ _ h=>by cases h
theorem Zbj{P:Program}{l:List (Nat×FX)}{f:Nat}{x:FX}(h:x.Ok P f)(k:∀ g fx,(fun n=>Zcu n l) g=some fx→fx.Ok P g):∀ g fx,(fun n=>Zcu n ((f,x)::l)) g=some fx→fx.Ok P g:=fun g fx hg=>by
 simp only[Zcu] at hg
 split at hg
 ·rename_i e;cases hg;rw[← Nat.eq_of_beq_eq_true e];exact h
 ·exact k g fx hg
theorem Zf {P : Program} {τ : Zar} (hτ : Zbs P τ) {run : ZiQ} (hrun : Zct P run) {A : An} {f : FuncId} {fi : FI} (hok : fi.Ok P f) {ps : List PS} {rs : List Ty} {pre : Option (Zcs ps → Prop)} {fn : Zcs ps → ZeI rs} {Wp : Zcs ps → (ZeI rs → Prop) → Prop}
 (hw:∀ xs Q,Wp xs Q=fnW τ run A fi ps rs xs Q) (hs:∀ xs,Zmp ps xs→okP (Con.ob ⟨ps,pre,fun xs=>Zbo rs (fn xs)⟩ xs)→Wp xs (fun r=>r=fn xs)):ZQ P f ⟨ps,pre,fun xs=>Zbo rs (fn xs)⟩ :=
 Zua hτ hrun hok fun xs hl hp=>hw xs _▸hs xs hl hp
section
variable {P:Program} {τ:Zar} {κ:Z1}
def Zxe:List Nat→List Nat→Bool
 | [],_=>true
 | l::r,M=>match Zek l M with
   | true=>Zxe r M
   | false=>false
theorem ZoM:∀ {a b:List Nat},Zxe a b=true→∀ l∈a,l∈b
 | [],_,_,l,h=>by simp at h
 | k::r,b,h,l,hl=>by
   simp only[Zxe] at h
   split at h
   ·rename_i hk
    rcases List.mem_cons.1 hl with rfl | hl
    ·exact ZbL.1 hk
    ·exact ZoM h l hl
   ·cases h
def ZxM(τ:Zar)(run:ZiQ)(A:An)(fi:FI)(R:ZqJ)(a:R.α)(b:R.β)(Q:ZeI R.rs→R.β→Prop):Prop:=match fi with
 | ⟨nt,res,code⟩=>match R.vals a with
   | vs=>match Nat.ble vs.length nt with
     | false=>False
     | true=>run A [] false code ⟨nt,Zc7 0 vs,R.objs b,R.k,[],[],[],[]⟩ (fun e s=>match Zj4 e with
       | false=>False
       | true=>match Zgl τ res s with
         | none=>False
         | some (v,s2)=>match Zxe s2.mv R.mv with
           | false=>False
           | true=>match Zog R.rs v with
             | none=>False
             | some r=>match R.back s2.objs with
               | none=>False
               | some b'=>Q r b')
theorem Ztt(hτ:Zbs P τ){run:ZiQ}(hrun:Zct P run){A:An}{f:FuncId}{fi:FI}(hok:fi.Ok P f){R:ZqJ}(hl:R.Law)(h:∀ a b,R.pre a b→ZxM τ run A fi R a b (R.post a b)):Sp.Ok P f (.self R):=by
 refine⟨hl,hok.call,fun E objs vs ks a b g hg hp cs rv=>?_⟩
 obtain⟨g0,hf0,hr0⟩:=ZmS hl g hg
 have rs:=hr0 rv
 have hin:CallsIn (fz none) 0 P f cs.toArray E.w fun e w2=>∃ u E' r b',e=.returned u∧E'.w=w2∧R.post a b r b'∧Z7 P E' (ZbX R ks b' objs)∧ZcH E objs E' (ZbX R ks b' objs) (mvK ks R.mv)∧E.w.drawn≤w2.drawn∧Rep P E' (Zbo R.rs r) u:=by
  obtain⟨fn,h1,h2,h3,h4,h5⟩:=hok
  have hw:=h a b hp
  obtain⟨nt,res,code⟩:=fi
  unfold ZxM at hw
  simp only at hw h2 h3 h4
  split at hw
  ·exact hw.elim
  ·rename_i hlen
   have hrel:=ZeQ (nt:=nt) (cargs:=cs.toArray) g0 hf0 (by simpa using rs) (Nat.le_of_ble_eq_true hlen)
   refine callsIn_of_wp_marks h1 h2 trivial ?_
   rw[h3]
   refine hrun A [] none code _ _ ⟨ZmA ks E,R.objs b⟩ _ hw _ E.w hrel (fun e s1 a1 w1 hi hk hr1=>?_)
   have fin:Zj4 e=true→LeavesInM (fz none) 0 P fn a1.tmps (fun e w2=>∃ u E' r b',e=.returned u∧E'.w=w2∧R.post a b r b'∧Z7 P E' (ZbX R ks b' objs)∧ZcH E objs E' (ZbX R ks b' objs) (mvK ks R.mv)∧E.w.drawn≤w2.drawn∧Rep P E' (Zbo R.rs r) u) a1.defers .returning w1:=fun he=>by
    rw[he] at hk
    simp only at hk
    split at hk
    ·exact hk.elim
    ·rename_i v s2 hf
     split at hk
     ·exact hk.elim
     ·rename_i hmv
      split at hk
      ·exact hk.elim
      ·rename_i r hr
       split at hk
       ·exact hk.elim
       ·rename_i b' hb
        refine ZgG hτ (fi:=⟨nt,res,code⟩) h4 hf hr1 (fun u E2 haft hu=>?_)
        obtain⟨k1,k2⟩:=Zrg hl g hg haft.good haft.step (ZoM hmv) hb
        exact⟨u,Zm3 ks E E2,r,b',rfl,rfl,hk,k1,k2,haft.drawn,Zoj (ZjR hr hu)⟩
   cases e with
   | normal=>exact fin rfl
   | ret=>exact fin rfl
   | _=>exact hk.elim
 exact callsIn_wide.1 hin
def fnL(τ:Zar)(run:ZiQ)(A:An)(fi:FI)(ps:List PS)(xs:Zcs ps)(Q:List Int×Int→Prop):Prop:=match fi with
 | ⟨nt,res,code⟩=>match Zj2 ps xs with
   | vs=>match Nat.ble vs.length nt with
     | false=>False
     | true=>run A [] false code ⟨nt,Zc7 0 vs,[],0,[],[],[],[]⟩ (fun e s=>match Zj4 e with
       | false=>False
       | true=>match Zgl τ res s with
         | none=>False
         | some (v,s2)=>match v with
           | .agg [.osl l,.d (.int .i64) k]=>match Zv l s2.objs with
             | some (.row (.int .i64) ys)=>Q (ys,k)
             | _=>False
           | _=>False)
theorem Zt8(hτ:Zbs P τ){run:ZiQ}(hrun:Zct P run){A:An}{f:FuncId}{fi:FI}(hok:fi.Ok P f){c:Zxd}(h:∀ ys,Zmp c.ps ys→c.pre ys→fnL τ run A fi c.ps ys (fun r=>r=c.fn ys)):ZqR P f c:=by
 refine⟨hok.call,fun E objs n ys g hn hp args ra=>?_⟩
 have hw:=h ys (Zfl ra) hp
 have g0:Z7 P ⟨E.w,E.S,fun _=>none⟩ []:=ZgI g.sok
 have hin:CallsIn (fz none) 0 P f args E.w fun e w2=>∃ u E',e=.returned u∧E'.w=w2∧Z7 P E' ((n,.row (.int .i64) (c.fn ys).1)::objs)∧ZcH E objs E' ((n,.row (.int .i64) (c.fn ys).1)::objs) []∧E.w.drawn≤w2.drawn∧Rep P E' (.agg [.osl n,.d (.int .i64) (c.fn ys).2]) u:=by
  obtain⟨fn,h1,h2,h3,h4,h5⟩:=hok
  obtain⟨nt,res,code⟩:=fi
  unfold fnL at hw
  simp only at hw h2 h3 h4
  split at hw
  ·exact hw.elim
  ·rename_i hlen
   have hrel:=ZeQ (nt:=nt) (nx:=0) g0 (fun _ _=>rfl) ra (Nat.le_of_ble_eq_true hlen)
   refine callsIn_of_wp_marks h1 h2 trivial ?_
   rw[h3]
   refine hrun A [] none code _ _ ⟨⟨E.w,E.S,fun _=>none⟩,[]⟩ _ hw _ E.w hrel (fun e s1 a1 w1 hi hk hr1=>?_)
   have fin:Zj4 e=true→LeavesInM (fz none) 0 P fn a1.tmps (fun e w2=>∃ u E',e=.returned u∧E'.w=w2∧Z7 P E' ((n,.row (.int .i64) (c.fn ys).1)::objs)∧ZcH E objs E' ((n,.row (.int .i64) (c.fn ys).1)::objs) []∧E.w.drawn≤w2.drawn∧Rep P E' (.agg [.osl n,.d (.int .i64) (c.fn ys).2]) u) a1.defers .returning w1:=fun he=>by
    rw[he] at hk
    simp only at hk
    split at hk
    ·exact hk.elim
    ·rename_i v s2 hf
     split at hk
     ·rename_i l k
      split at hk
      ·rename_i zs ho
       refine ZgG hτ (fi:=⟨nt,res,code⟩) h4 hf hr1 (fun u E2 haft hu=>?_)
       obtain⟨rfl,rfl⟩:zs=(c.fn ys).1∧k=(c.fn ys).2:=by rw[← hk];exact⟨rfl,rfl⟩
       obtain⟨L,hL,hat⟩:=haft.good.at_ l _ ho
       have st:=haft.step
       have hd0:∀ b,¬ ZdI (⟨E.w,E.S,fun _=>none⟩:Env) [] b:=fun b ⟨_,_,_,h,_⟩=>by cases h
       have hx:Ext E ⟨E2.w,E2.S,fun j=>if j=n then E2.loc l else E.loc j⟩ []:=⟨fun b hb=>st.ext.S b hb,fun j K _ hK=>by
        have:j≠n:=fun e=>by subst e;rw[hn] at hK;cases hK
        simp only[if_neg this];exact hK⟩
       have hfr:∀ b,b < E.w.heap.size→E2.w.heap[b]?=E.w.heap[b]?:=fun b hb=>st.frame b hb (hd0 b)
       have hnew:∀ b,ZdI E2 s2.objs b→E.w.heap.size≤b:=fun b hb=>(st.own b hb).elim id fun h=>(hd0 b h).elim
       have hat':ZaM P ⟨E2.w,E2.S,fun j=>if j=n then E2.loc l else E.loc j⟩ L (.row (.int .i64) (c.fn ys).1) :=
        hat.keepS (E':=⟨E2.w,E2.S,fun j=>if j=n then E2.loc l else E.loc j⟩) (f:=fun _=>.any) (fun v c r=>Zcq (E:=E2) (E':=⟨E2.w,E2.S,fun j=>if j=n then E2.loc l else E.loc j⟩) (fun b hb=>⟨hb,rfl⟩) (fun v c _ _=>.any c) r) (fun b hb=>⟨hb,rfl⟩) (fun _=>rfl)
       have hcase:∀ j o,Zv j ((n,Obj.row (.int .i64) (c.fn ys).1)::objs)=some o→(j=n∧o=.row (.int .i64) (c.fn ys).1)∨(j≠n∧Zv j objs=some o):=fun j o h=>by
        rw[Zl] at h
        split at h
        ·rename_i e;cases h;exact .inl ⟨e.symm,rfl⟩
        ·rename_i e;exact .inr ⟨fun e'=>e e'.symm,h⟩
       have hown:∀ b,ZdI (⟨E2.w,E2.S,fun j=>if j=n then E2.loc l else E.loc j⟩:Env) ((n,Obj.row (.int .i64) (c.fn ys).1)::objs) b→(ZdI E2 s2.objs b∧E.w.heap.size≤b)∨ZdI E objs b:=fun b ⟨j,o,K,k1,k2,k3,k4⟩=>by
        rcases hcase j o k1 with ⟨rfl,rfl⟩ | ⟨hne,ho'⟩
        ·simp only[if_true] at k2
         have hb:ZdI E2 s2.objs b:=⟨l,_,K,ho,k2,k3,k4⟩
         exact .inl ⟨hb,hnew b hb⟩
        ·simp only[if_neg hne] at k2
         exact .inr ⟨j,o,K,ho',k2,k3,k4⟩
       refine⟨u,⟨E2.w,E2.S,fun j=>if j=n then E2.loc l else E.loc j⟩,rfl,rfl,⟨fun j o h=>?_,fun b hb hs=>?_,haft.good.sl,haft.good.tab,fun i j o o' K K' k1 k2 k3 k4 k5 k6 k7=>?_⟩,
        ⟨hx,st.os,st.tape,st.output,st.size,fun b hb _=>hfr b hb,fun b hb=>?_,fun b hb=>?_,fun j h=>?_,fun j h=>?_⟩,haft.drawn,?_⟩
       ·rcases hcase j o h with ⟨rfl,rfl⟩ | ⟨hne,ho'⟩
        ·exact⟨L,by simp only[if_true];exact hL,hat'⟩
        ·obtain⟨K,hK,ha⟩:=g.at_ j o ho'
         exact⟨K,by simp only[if_neg hne];exact hK,ha.keep hx fun hh=>hfr _ (g.own_lt ⟨j,o,K,ho',hK,hh,rfl⟩)⟩
       ·rcases hown b hb with ⟨h,_⟩ | h
        ·exact haft.good.ns b h hs
        ·rcases st.st b hs with k | k | k
         ·exact g.ns b h k
         ·have:=g.own_lt h
          have k:E.w.heap.size≤b:=k
          omega
         ·exact hd0 b k
       ·rcases hcase i o k1 with ⟨rfl,rfl⟩ | ⟨hne,ho1⟩
        ·rcases hcase j o' k2 with ⟨rfl,rfl⟩ | ⟨hne',ho2⟩
         ·rfl
         ·simp only[if_true] at k3
          simp only[if_neg hne'] at k4
          have a1:=hnew K.b ⟨l,_,K,ho,k3,k5,rfl⟩
          have a2:=g.own_lt ⟨j,o',K',ho2,k4,k6,rfl⟩
          omega
        ·simp only[if_neg hne] at k3
         rcases hcase j o' k2 with ⟨rfl,rfl⟩ | ⟨hne',ho2⟩
         ·simp only[if_true] at k4
          have a1:=hnew K'.b ⟨l,_,K',ho,k4,k6,rfl⟩
          have a2:=g.own_lt ⟨i,o,K,ho1,k3,k5,rfl⟩
          omega
         ·simp only[if_neg hne'] at k4
          exact g.inj i j o o' K K' ho1 ho2 k3 k4 k5 k6 k7
       ·rcases hown b hb with ⟨_,h⟩ | h
        ·exact .inl h
        ·exact .inr h
       ·rcases st.st b hb with k | k | k
        ·exact .inl k
        ·exact .inr (.inl k)
        ·exact (hd0 b k).elim
       ·rw[Zl] at h
        split at h
        ·cases h
        ·exact h
       ·rw[Zl] at h
        split at h
        ·cases h
        ·rename_i e;simp only[if_neg fun e'=>e (Eq.symm e')]
       ·have hag:=Zoz hu
        obtain⟨ca,rfl,rr⟩:=hag
        match hc:ca.toList,rr with
        | [c1,c2],rr =>
          obtain⟨K,hK,rfl⟩:=Zcf rr.head
          have e2:=rr.tail.head.int_inv
          subst e2
          have hca:ca=#[K.v,.int .i64 (c.fn ys).2]:=Array.ext' (by rw[hc])
          rw[hca]
          refine .agg rfl fun j hj=>?_
          match j,hj with
          | 0,_=>exact .osl (L:=K) (by show (if n=n then E2.loc l else E.loc n)=some K;rw[if_pos rfl];exact hK)
          | 1,_=>exact .mk_int _ _
        | [],rr=>exact absurd rr.1 (by simp)
        | [_],rr=>exact absurd rr.1 (by simp)
        | _::_::_::_,rr=>exact absurd rr.1 (by simp)
      ·exact hk.elim
     ·exact hk.elim
   cases e with
   | normal=>exact fin rfl
   | ret=>exact fin rfl
   | _=>exact hk.elim
 exact callsIn_wide.1 hin
end
section
variable {P:Program} {τ:Zar} {κ:Z1}
theorem Zta{r:Option Nat}{o:Oper}{a:Act}{w w':World}{v:Value}{next:Act→World→Prop}{Q:ZjV}(hd:∀ c,o.op≠.defer c)(h:(execOp a.eval o).run P w=.ok (.value v) w')(hn:next (a.put o.dst v) w'):o.wpIn (fz r) 0 P a w next Q:=by
 refine⟨fun _ _=>trivial,?_⟩
 rw[Oper.semAt_eq _ _ _ hd,h]
 exact hn
theorem Ztu{E:Env}{objs:Zat}(g:Z7 P E objs)(c:Value)(t:TypeId):∃ E',E'.w=E.w.alloc (.cells #[c] t)∧E'.S E.w.heap.size∧Z7 P E' objs∧ZcH E objs E' objs []:=by
 have g0:Z7 P ⟨E.w,E.S,fun _=>none⟩ []:=ZgI g.sok
 obtain⟨E1,hw,g1,s1,hl⟩:=Zgt (n:=0) (cs:=[V.any]) (vals:=#[c]) (t:=t) g0 rfl (.cons (.any c) .nil)
 obtain⟨g2,s2⟩:=g1.still (l:=0) (by rfl) hl
 have st:=s1.trans s2
 have hd0:∀ b,¬ ZdI (⟨E.w,E.S,fun _=>none⟩:Env) [] b:=fun b ⟨_,_,_,h,_⟩=>by cases h
 have hfr:∀ b,b < E.w.heap.size→E1.w.heap[b]?=E.w.heap[b]?:=fun b hb=>st.frame b hb (hd0 b)
 have hx:Ext E ⟨E1.w,(E1.still E.w.heap.size ((Obj.box [V.any]).has { b:=E.w.heap.size })).S,E.loc⟩ []:=⟨fun b hb=>st.ext.S b hb,fun j K _ hK=>hK⟩
 have hown:∀ b,ZdI (⟨E1.w,(E1.still E.w.heap.size ((Obj.box [V.any]).has { b:=E.w.heap.size })).S,E.loc⟩:Env) objs b→ZdI E objs b:=fun b ⟨l,o,L,h1,h2,h3,h4⟩=>⟨l,o,L,h1,h2,h3,h4⟩
 have hst:∀ b,(E1.still E.w.heap.size ((Obj.box [V.any]).has { b:=E.w.heap.size })).S b→E.S b∨E.w.heap.size≤b:=fun b hb=>by
  rcases st.st b hb with k | k | k
  ·exact .inl k
  ·exact .inr k
  ·exact (hd0 b k).elim
 refine⟨⟨E1.w,(E1.still E.w.heap.size ((Obj.box [V.any]).has { b:=E.w.heap.size })).S,E.loc⟩,hw,.inr ⟨trivial,rfl⟩,⟨fun l o h=>?_,fun b hb hs=>?_,g2.sl,g2.tab,fun i j o o' K K' k1 k2 k3 k4=>g.inj i j o o' K K' k1 k2 k3 k4⟩,
  ⟨hx,st.os,st.tape,st.output,st.size,fun b hb _=>hfr b hb,fun b hb=>.inr (hown b hb),fun b hb=>(hst b hb).elim .inl fun h=>.inr (.inl h),fun l h=>h,fun l h=>rfl⟩⟩
 ·obtain⟨K,hK,ha⟩:=g.at_ l o h
  exact⟨K,hK,ha.keep hx fun hh=>hfr _ (g.own_lt ⟨l,o,K,h,hK,hh,rfl⟩)⟩
 ·have hb':=hown b hb
  rcases hst b hs with k | k
  ·exact g.ns b hb' k
  ·have:=g.own_lt hb'
   omega
def Zsz(i1 i2:Nat)(t t1 t2 t3 t4:TypeId)(h:FuncId)(p1 p2 p3 p4:String)(af:Array Edge):Code :=
 (Code.region i1 #[{ dst:=some 1,op:=Op.box t (.tmp 0),type:=t1,pos:=p1,after:=#[],guard:=none },{ dst:=some 2,op:=Op.assign (.const .nilFunc),type:=t2,pos:=p2,after:=#[],guard:=none }] false).seq
  ((Code.region i2 #[{ dst:=some 3,op:=Op.makeFunc (.func h) #[] #[.tmp 1],type:=t3,pos:=p3,after:=#[],guard:=none },{ dst:=some 2,op:=Op.assign (.tmp 3),type:=t4,pos:=p4,after:=af,guard:=none }] false).seq .ret)
theorem Ztp{f:FuncId}{fi:FI}(hok:fi.Ok P f){i1 i2:Nat}{t t1 t2 t3 t4:TypeId}{h:FuncId}{p1 p2 p3 p4:String}{af:Array Edge}(hfi:fi=⟨4,[.tmp 2],Zsz i1 i2 t t1 t2 t3 t4 h p1 p2 p3 p4 af⟩):Zun P f h:=by
 refine⟨hok.call,fun E objs v c g hs rc=>?_⟩
 obtain⟨E',hw,hS,g',st⟩:=Ztu g c t
 have hone:=ZeL hs rc
 have hcells:c.cells=#[c]:=by
  cases c<;>simp_all [Value.oneCell',Value.cells]
 obtain⟨fn,h1,h2,h3,h4,h5⟩:=hok
 subst hfi
 simp only at h2 h3 h4
 have hin:CallsIn (fz none) 0 P f #[c] E.w fun e w2=>∃ u E',e=.returned u∧E'.w=w2∧Z7 P E' objs∧ZcH E objs E' objs []∧E.w.drawn≤w2.drawn∧Rep P E' (.fn (.func h) [] [.er [v]]) u:=by
  refine callsIn_of_wp_marks h1 h2 trivial ?_
  rw[h3]
  unfold Zsz
  refine wpIn_seq (wpIn_region ?_)
  show wpOpsIn (fz none) 0 P _ _ [0,1] _ _
  simp only[wpOpsIn]
  simp[Region.wanted]
  refine Zta (v:=.pointer (some ⟨E.w.heap.size,0,none⟩)) (w':=E'.w) (fun _ h=>by cases h) ?_ ?_
  ·show ((do let v ← Instr.box t _;pure (Next.value v):Sem Next)).run P E.w=_
   rw[hw]
   simp[Instr.box,newVar,newRow,Act.eval,hcells]
  ·refine Zta (v:=.nilFunc) (w':=E'.w) (fun _ h=>by cases h) rfl ?_
   refine wpIn_seq (wpIn_region ?_)
   show wpOpsIn (fz none) 0 P _ _ [0,1] _ _
   simp only[wpOpsIn]
   simp[Region.wanted]
   refine Zta (v:=.func (.func h) #[] #[.pointer (some ⟨E.w.heap.size,0,none⟩)]) (w':=E'.w) (fun _ h=>by cases h) ?_ ?_
   ·simp[execOp,Act.eval,Act.put,Instr.makeFunc]
   ·refine Zta (v:=.func (.func h) #[] #[.pointer (some ⟨E.w.heap.size,0,none⟩)]) (w':=E'.w) (fun _ h=>by cases h) ?_ ?_
    ·rfl
    ·refine wpIn_ret ?_
     show LeavesInM _ _ _ _ _ _ _ _ _
     refine⟨.func (.func h) #[] #[.pointer (some ⟨E.w.heap.size,0,none⟩)],?_,?_⟩
     ·rw[ZkD,Array.mapM_eq_mapM_toList,h4]
      rfl
     ·refine⟨_,rfl,E',rfl,g',st,?_,.fn rfl rfl (fun j hj=>by cases hj) fun j hj=>?_⟩
      ·rw[hw];exact Nat.le_refl _
      ·match j,hj with
       | 0,_ =>
         refine .er (fun _=>c) hS (fun j hj=>?_) (fun j hj=>?_)
         ·have:j=0:=by simpa using hj
          subst this
          rw[ZcZ (vals:=#[c]) (t:=t) (fr:=(0,0)) (by rw[hw];exact heap_alloc_new _ _)];rfl
         ·have:j=0:=by simpa using hj
          subst this
          exact rc.mono st.ext
 exact callsIn_wide.1 hin
end
end Go.Proofs.YtgpdnmfpgkkgcaaGreatDoor
