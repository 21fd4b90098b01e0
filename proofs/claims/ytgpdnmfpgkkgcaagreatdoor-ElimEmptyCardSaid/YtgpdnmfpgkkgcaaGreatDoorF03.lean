/- Part of a proof that a law of the program holds for every input: how abstract states follow the program. No conditions. -/
import Derived.Test.YtgpdnmfpgkkgcaaGreatDoorF02
namespace Go.Proofs.YtgpdnmfpgkkgcaaGreatDoor
open Go
set_option linter.unusedVariables false
variable {P:Program} {τ:ZaA} {κ:Zaf} {φ:Nat→Option FX}
def Lp {σ:Type} (body:σ→(σ→Prop)→Prop) (x:σ):Prop:=∀ R:σ→Prop,(∀ y,body y R→R y)→R x
def ZqF {σ:Type} (K:σ→Prop) (body:(σ→Prop)→Prop):Prop:=body K
def ZcS:Code→Option Nat
 | .region id _ _=>some id
 | .seq a b=>match ZcS a with
   | some n=>some n
   | none=>ZcS b
 | .cond _ a b=>match ZcS a with
   | some n=>some n
   | none=>ZcS b
 | .block _ c=>ZcS c
 | .loop c=>ZcS c
 | .scope c=>ZcS c
 | .rangeFunc _ _ a _=>ZcS a
 | _=>none
def An.join (A:An) (d:Code):Option LA:=match ZcS d with
 | some n=>A.jn n
 | .none=>.none
def St.add (s:St) (la:LA) (s0:St):St:=match la,s0,s with
 | ⟨vs,es,an,dd⟩,⟨_,_,_,_,_,wr0,di0,_⟩,⟨nt,tmps,objs,nx,df,wr,di,mv⟩=>⟨nt,tmps,objs,nx,df,wr++(an++(LA.tmps vs++wr0)),di++(Zfe vs++dd++di0),mv⟩
theorem Znl {cx:Cx} {la:LA} {s0 s:St} {a:Act} {w:World} (h:Rel P cx s a w):Rel P cx (s.add la s0) a w:=by
 obtain ⟨E,e,r⟩:=h
 cases la;cases s0;cases s
 exact ⟨E,e,r.good,r.fresh,r.step,r.drawn,r.size,r.df,r.rep⟩
theorem Zr4 {cx:Cx} {s:St} {a:Act} {w:World} (h:Rel P cx s a w):Rel P cx s.clr a w:=by
 obtain ⟨E,e,r⟩:=h
 cases s
 exact ⟨E,e,r.good,r.fresh,r.step,r.drawn,r.size,r.df,r.rep⟩
theorem Zvd {s:St}:s.clr.mv=s.mv:=by cases s;rfl
theorem ZrC {la:LA} {s:St} {y:ZdG la.vs}:∀ l∈s.mv,l∈(head la s y).mv:=by
 cases la;cases s
 exact fun l hl=>List.mem_append_right _ hl
theorem Zng {la:LA} {s0 s:St} (h:Hd la s0 s) (hm:∀ l∈s0.mv,l∈s.mv):Inv s0 (s.add la s0):=by
 obtain ⟨vs,es,an,dd⟩:=la
 obtain ⟨nt0,tmps0,objs0,nx0,df0,wr0,di0,mv0⟩:=s0
 obtain ⟨nt,tmps,objs,nx,df,wr,di,mv⟩:=s
 refine ⟨h.nt,h.nx,fun t ht=>?_,fun l hl=>?_,hm,fun t ht=>?_,fun l hl=>?_,fun hn=>?_⟩
 ·show t∈wr++(an++(LA.tmps vs++wr0))
  simp only [List.mem_append];exact .inr (.inr (.inr ht))
 ·show l∈di++(Zfe vs++dd++di0)
  simp only [List.mem_append];exact .inr (.inr hl)
 ·have ht:t∉wr++(an++(LA.tmps vs++wr0)):=ht
  simp only [List.mem_append,not_or] at ht
  exact h.tmp t ht.1 ht.2.1 ht.2.2.1
 ·have hl:l∉di++(Zfe vs++dd++di0):=hl
  simp only [List.mem_append,not_or] at hl
  exact h.obj l hl.1 (by show l∉Zfe vs++dd;simp only [List.mem_append,not_or];exact hl.2.1)
 ·have hn:nt0∉wr++(an++(LA.tmps vs++wr0)):=hn
  simp only [List.mem_append,not_or] at hn
  exact h.df hn.1
def unW (body:St→(Exit→St→Prop)→Prop):Nat→St→(Exit→St→Prop)→Prop
 | 0,_,_=>False
 | n+1,s,k=>body s (fun e s'=>match e with
   | .normal=>unW body n s' k
   | e=>k e s')
abbrev DT:=XT→List Oper→St→(St→Prop)→Prop
def DOk (P:Program) (D:DT):Prop:=∀ (X:XT) (id:Nat) (ops:Array Oper) (s:St) (k:St→Prop) (cx:Cx) (r:Option Nat) (R:Zjj),XOk P r cx X→D X ops.toList s k→∀ a w,Rel P cx s a w→(∀ s' a' w',Inv s s'→k s'→Rel P cx s' a' w'→R .normal a' w') →
 (Code.region id ops true).wpIn (fz r) 0 P R a w
def Zqy (l:Nat) (k:Exit→St→Prop) (s:St):Prop:=match s with
 | ⟨nt,tmps,objs,nx,df,wr,di,mv⟩=>match ZdT l mv with
   | true=>False
   | false=>match Zy l objs with
     | some (.lrec _ _ _ _ _ st j)=>match st with
       | .busy=>False
       | _=>match j with
         | .no=>k .normal ⟨nt,tmps,(l,.dead)::objs,nx,df,wr,l::di,mv⟩
         | .ret=>k .ret ⟨nt,tmps,(l,.dead)::objs,nx,df,wr,l::di,mv⟩
         | .exit i=>k (.exit i) ⟨nt,tmps,(l,.dead)::objs,nx,df,wr,l::di,mv⟩
     | _=>False
def Zd1 (τ:ZaA) (κ:Zaf) (φ:Nat→Option FX) (D:DT) (run:Zir) (A:An) (Y:List (Nat×An)) (ro:Bool):Nat→Code→St→(Exit→St→Prop)→Prop
 | _,.skip,s,k=>k .normal s
 | _,.label _,s,k=>k .normal s
 | _,.ret,s,k=>k .ret s
 | _,.exit i,s,k=>k (.exit i) s
 | _, .region id ops dr, s, k => Zde (A.gs id) s (fun s1 => match ops.toList with
  | l=>match dr with
    | false=>ZlG τ κ (xW τ φ run A Y) l l [] s1 (fun s'=>k .normal s')
    | true=>D (xW τ φ run A Y) l s1 (fun s'=>k .normal s'))
 | b,.seq c d,s,k=>match A.join d with
   | none=>Zd1 τ κ φ D run A Y ro b c s (fun e s'=>match e with
     | .normal=>Zd1 τ κ φ D run A Y ro b d s' k
     | e=>k e s')
   | some la=>ZqF (fun y=>Zd1 τ κ φ D run A Y ro b d ((head la s y).add la s) k) (fun J=>Zd1 τ κ φ D run A Y ro b c s.clr (fun e s'=>match e with
     | .normal=>match back la s s' with
       | some y=>J y
       | none=>False
     | e=>k e (s'.add la s)))
 | b,.cond x c d,s,k=>match evV s.tmps x with
   | .d .bool v=>cond v (Zd1 τ κ φ D run A Y ro b c s k) (Zd1 τ κ φ D run A Y ro b d s k)
   | _=>False
 | b,.block id c,s,k=>Zd1 τ κ φ D run A Y ro id c s (fun e s'=>match e with
   | .exit i=>match Nat.beq i id with
     | true=>k .normal s'
     | false=>k (.exit i) s'
   | e=>k e s')
 | b,.scope c,s,k=>Zd1 τ κ φ D run A Y ro b c s (fun e s'=>match e with
   | .goto _=>False
   | e=>k e s')
 | b,.loop c,s,k=>match ghosts (A.gs (1000+b)) s with
   | none=>False
   | some s=>match A.lp b with
     | none=>match A.un b with
       | some n=>unW (fun s k=>Zd1 τ κ φ D run A Y ro b c s k) n s k
       | none=>False
     | some la=>match frzVs la.vs s with
       | s0=>match back la s0 s0.clr with
         | none=>False
         | some y0=>Lp (fun y R=>Zd1 τ κ φ D run A Y ro b c (head la s0 y) (fun e s'=>match e with
           | .normal=>match back la s0 s' with
             | some y'=>R y'
             | none=>False
           | e=>k e (s'.add la s0))) y0
 | b,.rangeFunc g ps assign body,s,k=>match ro with
   | true=>False
   | false=>match s with
     | ⟨nt, tmps, objs, nx, df, wr, di, mv⟩ => Zs0 τ φ run (A.call (5000 + b)) ((nx + 1, A) :: Y) (evV tmps g) [.yl (nx + 1)]
      ⟨nt,tmps,(nx+1,.lrec nt tmps ps.toList assign body .ready .no)::(nx,.dfb)::objs,nx+2,.mark nx::df,nt::wr,(nx+1)::nx::di,mv⟩ (fun _ s'=>Zqy (nx+1) k s')
 | _,_,_,_=>False
theorem Zgg (fn : FuncId) (tmps : Array Value) (ps : Array Tmp) (assign body : Code) (w : World) :
 (Instr.enterLoop fn tmps ps assign body (fz none).round).run P w =
  .ok (w.heap.size+1,[{ target:=.collected w.heap.size,args:=#[] }])
   ((w.alloc (.deferred (some []))).alloc (.loop { state:=.ready,pending:=none,fn,tmps,params:=ps,assign,body,defers:=w.heap.size })) :=
 run_enterLoop_outer fn tmps ps assign body
theorem Zn6 (w:World) (o:Go.Obj):(w.alloc o).heap[w.heap.size]?=some o:=World.alloc_heap_new w o
theorem Zno {cx : Cx} {s : St} {a : Act} {E : Env} (r : Zcw P cx s a E) (fn : FuncId) (ps : Array Tmp) (assign body : Code) :
 ∃ E2,E2.w=(E.w.alloc (.deferred (some []))).alloc (.loop { state:=.ready,pending:=none,fn,tmps:=a.tmps,params:=ps,assign,body,defers:=E.w.heap.size })∧Ext E E2 []∧E2.loc (s.nx+1)=some { b:=E.w.heap.size+1 } ∧
  Zcw P cx ⟨s.nt,s.tmps,(s.nx+1,.lrec s.nt s.tmps ps.toList assign body .ready .no)::(s.nx,.dfb)::s.objs,s.nx+2,.mark s.nx::s.df,s.nt::s.wr,(s.nx+1)::s.nx::s.di,s.mv⟩
   { a with defers:={ target:=.collected E.w.heap.size,args:=#[] }::a.defers } E2:=by
 have hf0:=r.fresh s.nx (Nat.le_refl _)
 have p1:=Zak.push r.good (w:=E.w.alloc (.deferred (some []))) (l:=s.nx) (L:={ b:=E.w.heap.size }) (o:=.dfb) hf0 (World.grownBy_alloc E.w _ none) (Zn6 E.w _) (fun _=>Nat.le_refl _)
 have hf1:(E.setL (E.w.alloc (.deferred (some []))) s.nx { b:=E.w.heap.size }).loc (s.nx+1)=none:=by
  rw [ZaF _ _ _ (by omega)];exact r.fresh _ (by omega)
 generalize hE1:E.setL (E.w.alloc (.deferred (some []))) s.nx { b:=E.w.heap.size }=E1 at p1 hf1
 have hw1:E1.w=E.w.alloc (.deferred (some [])):=by rw [← hE1];rfl
 have hsz:E1.w.heap.size=E.w.heap.size+1:=by rw [hw1];simp
 have hx1:Ext E E1 []:=p1.2.ext
 have hgr:=World.grownBy_alloc E1.w (.loop { state:=.ready,pending:=none,fn,tmps:=a.tmps,params:=ps,assign,body,defers:=E.w.heap.size }) none
 have hx2:=Zf5 p1.1 { b:=E1.w.heap.size } hf1 hgr
 have p2:=Zak.push p1.1 (w:=E1.w.alloc (.loop { state:=.ready,pending:=none,fn,tmps:=a.tmps,params:=ps,assign,body,defers:=E.w.heap.size })) (l:=s.nx+1) (L:={ b:=E1.w.heap.size })
  (o:=.lrec s.nt s.tmps ps.toList assign body .ready .no) hf1 hgr
  ⟨_,Zn6 E1.w _,r.size,fun t=>((r.rep t).mono hx1).mono hx2,rfl,rfl,rfl,rfl,rfl⟩ (fun _=>Nat.le_refl _)
 refine ⟨_,by rw [← hw1];rfl,?_,by rw [ZZ,hsz],p2.1,fun l hl=>?_,(r.step.trans p1.2).trans p2.2,by show cx.E.w.drawn≤(E1.w.alloc _).drawn;rw [hw1];exact r.drawn,r.size,?_,fun t=>((r.rep t).mono hx1).mono hx2⟩
 ·simpa using hx1.trans hx2
 ·have hl:s.nx+2≤l:=hl
  rw [ZaF _ _ _ (by omega),← hE1,ZaF _ _ _ (by omega)]
  exact r.fresh l (by omega)
 ·exact ⟨_,_,rfl,⟨_,by rw [ZaF _ _ _ (by omega),← hE1];exact ZZ _ _ _ _,rfl⟩,(r.df.ext hx1).ext hx2⟩
theorem Zp4 {l : Nat} {k : Exit → St → Prop} {cx : Cx} {s : St} {a : Act} {E : Env} {b : Nat} {R : Zjj} (h : Zqy l k s) (r : Zcw P cx s a E) (hl : l ∉ s.mv → E.loc l = some { b := b })
 (hk:∀ e s' a' w',Inv s s'→k e s'→Rel P cx s' a' w'→R e a' w'):rangePost (fz none) 0 P b R a (.returned undef) E.w:=by
 obtain ⟨nt,tmps,objs,nx,df,wr,di,mv⟩:=s
 unfold Zqy at h
 simp only at h
 split at h
 ·exact h.elim
 ·rename_i hm
  have hL:=hl (fun hmem=>by rw [Zby.2 hmem] at hm;cases hm)
  split at h
  ·rename_i nt1 tmps1 ps1 as1 bo1 st j ho
   obtain ⟨K,hK,hat⟩:=r.good.at_ l _ ho
   rw [hL] at hK;cases hK
   obtain ⟨q,q1,q2,q3,q4,q5,q6,q7,q8⟩:=hat
   have hlt:b < E.w.heap.size:=(Array.getElem?_eq_some_iff.1 q1).1
   have hgr:E.w.grownBy (E.w.putObj b (.loop { q with state:=.exhausted })) (some b):=grownBy_putObj' _ _ _
   have hp:=Zak.put r.good (mv:=false) (o':=.dead) (L':={ b:=b }) ho hL hgr (fun b' e=>by cases e;exact ⟨trivial,rfl⟩) (fun _=>rfl) trivial (fun h=>h.elim)
   have hbusy:st≠.busy→q.state≠.busy:=fun h e=>h (q7▸e)
   have hrel:Rel P cx ⟨nt,tmps,(l,.dead)::objs,nx,df,wr,l::di,mv⟩ a (E.w.putObj b (.loop { q with state:=.exhausted })):=by
    refine ⟨_,rfl,hp.1,fun k hk=>?_,r.step.trans hp.2,r.drawn,r.size,r.df.ext hp.2.ext,fun t=>(r.rep t).mono hp.2.ext⟩
    by_cases e:k=l
    ·subst e
     have:=r.fresh k hk
     rw [hL] at this;cases this
    ·rw [ZaF _ _ _ e];exact r.fresh k hk
   have hinv:Inv ⟨nt,tmps,objs,nx,df,wr,di,mv⟩ ⟨nt,tmps,(l,.dead)::objs,nx,df,wr,l::di,mv⟩ :=
    ⟨rfl,Nat.le_refl _,fun _ h=>h,fun _ h=>List.mem_cons_of_mem _ h,fun _ h=>h,fun _ _=>rfl,fun k hk=>by
     simp only [List.mem_cons,not_or] at hk
     simp only;rw [Zo,if_neg (Ne.symm hk.1)],fun _=>rfl⟩
   split at h
   ·exact h.elim
   ·rename_i hst
    refine ⟨j.code,_,by rw [← q8];exact run_endLoop q1 (hbusy fun e=>hst e),?_⟩
    cases j with
    | no=>exact hk _ _ _ _ hinv h hrel
    | ret=>exact wpIn_ret (hk _ _ _ _ hinv h hrel)
    | exit i=>exact wpIn_exit (hk _ _ _ _ hinv h hrel)
  ·exact h.elim
end Go.Proofs.YtgpdnmfpgkkgcaaGreatDoor
namespace Go.Proofs.YtgpdnmfpgkkgcaaGreatDoor
open Go
set_option linter.unusedVariables false
variable {P:Program} {τ:ZaA} {κ:Zaf} {φ:Nat→Option FX}
theorem ZtY {r : Option Nat} {cx : Cx} {R : Zjj} {c : Code} {body : St → (Exit → St → Prop) → Prop} {k : Exit → St → Prop}
 (hb:∀ (s:St) (k:Exit→St→Prop) (R:Zjj),body s k→∀ a w,Rel P cx s a w→(∀ e s' a' w',Inv s s'→k e s'→Rel P cx s' a' w'→R e a' w')→c.wpIn (fz r) 0 P R a w) :
 ∀ (n:Nat) (s:St),unW body n s k→∀ a w,Rel P cx s a w→(∀ e s' a' w',Inv s s'→k e s'→Rel P cx s' a' w'→R e a' w')→Zfj (fz r) P c R a w
 | 0,_,h,_,_,_,_=>h.elim
 | n+1,s,h,a,w,hr,hk=>Zfj.round (hb s _ _ h a w hr (fun e s' a' w' hi hq hr'=>by
  cases e with
  | normal=>exact ZtY hb n s' hq a' w' hr' (fun e s'' a'' w'' hi' hq' hr''=>hk e s'' a'' w'' (hi.trans hi') hq' hr'')
  | _=>exact hk _ s' a' w' hi hq hr'))
theorem Zrd (ops:Array Oper):ops.toList.map some=(List.range ops.size).map (fun i=>ops[i]?):=by
 apply List.ext_getElem?
 intro j
 simp only [List.getElem?_map,Array.getElem?_toList]
 by_cases h:j < ops.size
 ·rw [List.getElem?_range h];simp [h]
 ·rw [List.getElem?_eq_none (by simp;omega),Array.getElem?_eq_none (by omega)];rfl
theorem Ztq (hτ : Zbl P τ) (hκ : Zay P κ) (hφ : ∀ g fi, φ g = some fi → fi.Ok P g) {D : DT} (hD : DOk P D) {run : Zir} (hrun : Zf2 P run) {A : An} {Y : List (Nat × An)} {r : Option Nat} {cx : Cx} :
 ∀ (c:Code) (b:Nat) (s:St) (k:Exit→St→Prop) (R:Zjj),Zd1 τ κ φ D run A Y r.isSome b c s k→∀ a w,Rel P cx s a w→(∀ e s' a' w',Inv s s'→k e s'→Rel P cx s' a' w'→R e a' w')→c.wpIn (fz r) 0 P R a w:=by
 intro c
 induction c with
 | skip=>intro b s k R h a w hr hk;exact wpIn_skip (hk _ s a w (.refl s) h hr)
 | label l=>intro b s k R h a w hr hk;exact wpIn_label (hk _ s a w (.refl s) h hr)
 | ret=>intro b s k R h a w hr hk;exact wpIn_ret (hk _ s a w (.refl s) h hr)
 | exit i=>intro b s k R h a w hr hk;exact wpIn_exit (hk _ s a w (.refl s) h hr)
 | goto l=>intro b s k R h a w hr hk;exact h.elim
 | refuse l=>intro b s k R h a w hr hk;exact h.elim
 | region id ops dr =>
   intro b s k R h a w hr hk
   simp only [Zd1] at h
   obtain ⟨s1,hi1,hr1,h⟩:=ZcX h hr
   cases dr with
   | false =>
     simp only at h
     refine wpIn_region ?_
     have:=Znx (Q:=R) hτ hκ (Zvv (r:=r) (cx:=cx) hτ hφ hrun) (is:=List.range ops.size) (Zrd ops) h hr1 (fun s' a' w' hi hq hr'=>hk _ s' a' w' (hi1.trans hi) hq hr')
     exact this
   | true=>exact hD _ id ops s1 _ cx r R (Zvv hτ hφ hrun) h a w hr1 (fun s' a' w' hi hq hr'=>hk _ s' a' w' (hi1.trans hi) hq hr')
 | seq c d ihc ihd =>
   intro b s k R h a w hr hk
   simp only [Zd1] at h
   split at h
   ·refine wpIn_seq (ihc b s _ _ h a w hr (fun e s' a' w' hi hq hr'=>?_))
    cases e with
    | normal=>exact ihd b s' k R hq a' w' hr' (fun e s'' a'' w'' hi' hq' hr''=>hk e s'' a'' w'' (hi.trans hi') hq' hr'')
    | _=>exact hk _ s' a' w' hi hq hr'
   ·rename_i la hla
    refine wpIn_seq (ihc b s.clr _ _ h a w (Zr4 hr) (fun e s' a' w' hi hq hr'=>?_))
    have hd:Hd la s s':=(Hd.clr la s).inv hi
    have hmv:∀ l∈s.mv,l∈s'.mv:=fun l hl=>hi.mv l (by rw [Zvd];exact hl)
    cases e with
    | normal =>
      simp only at hq
      split at hq
      ·rename_i y hy
       have hr2:=Zm1 hr hd hy hr'
       exact ihd b _ k R hq a' w' (Znl hr2) (fun e s'' a'' w'' hi' hq' hr''=>hk e s'' a'' w'' ((Zng (Hd.head la s y) ZrC).trans hi') hq' hr'')
      ·exact hq.elim
    | _=>exact hk _ _ a' w' (Zng hd hmv) hq (Znl hr')
 | cond x c d ihc ihd =>
   intro b s k R h a w hr hk
   simp only [Zd1] at h
   split at h
   ·rename_i v hv
    obtain ⟨E,rfl,r1⟩:=id hr
    have rx:=ZdW r1.rep x
    rw [hv] at rx
    cases v with
    | true=>exact wpIn_cond rx.bool_inv (ihc b s k R h a _ hr hk)
    | false=>exact wpIn_cond rx.bool_inv (ihd b s k R h a _ hr hk)
   ·exact h.elim
 | block id c ih =>
   intro b s k R h a w hr hk
   simp only [Zd1] at h
   refine wpIn_block (ih id s _ _ h a w hr (fun e s' a' w' hi hq hr'=>?_))
   cases e with
   | exit i =>
     simp only at hq
     simp only [Exit.inBlock]
     split at hq
     ·rename_i e
      rw [if_pos (Nat.eq_of_beq_eq_true e)]
      exact hk _ s' a' w' hi hq hr'
     ·rename_i e
      rw [if_neg (Nat.ne_of_beq_eq_false e)]
      exact hk _ s' a' w' hi hq hr'
   | _=>exact hk _ s' a' w' hi hq hr'
 | scope c ih =>
   intro b s k R h a w hr hk
   simp only [Zd1] at h
   refine ZsQ (ih b s _ _ h a w hr (fun e s' a' w' hi hq hr'=>?_))
   cases e with
   | goto l=>exact hq.elim
   | _=>exact hk _ s' a' w' hi hq hr'
 | loop c ih =>
   intro b s k R h a w hr hk
   simp only [Zd1] at h
   split at h
   ·exact h.elim
   ·rename_i sg hsg
    replace hk:∀ e s' a' w',Inv sg s'→k e s'→Rel P cx s' a' w'→R e a' w':=fun e s' a' w' hi=>hk e s' a' w' ((Inv.ghosts hsg).trans hi)
    replace hr:=Zmd hsg a w hr
    split at h
    ·split at h
     ·rename_i n hn
      exact (ZtY (fun s k R h a w hr hk=>ih b s k R h a w hr hk) n sg h a w hr hk).loop
     ·exact h.elim
    ·rename_i la hla
     have hr0:=Zgq (P:=P) (cx:=cx) la.vs sg a w hr
     have hi0:=Inv.frzVs la.vs sg
     revert h hr0 hi0
     generalize frzVs la.vs sg=s0
     intro h hr0 hi0
     split at h
     ·exact h.elim
     ·rename_i y0 hy0
      have hfirst:Rel P cx (head la s0 y0) a w:=Zm1 hr0 (Hd.clr la s0) hy0 (Zr4 hr0)
      refine Zfj.loop (h (fun y=>∀ a w,Rel P cx (head la s0 y) a w→Zfj (fz r) P c R a w) (fun y hy a w hr=>Zfj.round (ih b _ _ _ hy a w hr (fun e s' a' w' hi hq hr'=>?_))) a w hfirst)
      have hd:Hd la s0 s':=(Hd.head la s0 y).inv hi
      have hmv:∀ l∈s0.mv,l∈s'.mv:=fun l hl=>hi.mv l (ZrC l hl)
      cases e with
      | normal =>
        simp only at hq
        split at hq
        ·rename_i y' hy'
         exact hq a' w' (Zm1 hr0 hd hy' hr')
        ·exact hq.elim
      | _=>exact hk _ _ a' w' (hi0.trans (Zng hd hmv)) hq (Znl hr')
 | rangeFunc g ps assign body =>
   intro b s k R h a w hr hk
   simp only [Zd1] at h
   split at h
   ·exact h.elim
   ·rename_i hro
    have hrn:r=none:=by cases r with | none=>rfl | some _=>cases hro
    subst hrn
    obtain ⟨nt,tmps,objs,nx,df,wr,di,mv⟩:=s
    simp only at h
    obtain ⟨E,rfl,r1⟩:=hr
    refine wpIn_rangeFunc (fun fn _=>?_)
    obtain ⟨E2,e1,e2,e3,r2⟩:=Zno r1 fn ps assign body
    have rg:Rep P E2 (evV tmps g) (a.eval g):=(ZdW r1.rep g).mono e2
    have ry:Zbr P E2 [.yl (nx+1)] [.func (.yield (E.w.heap.size+1)) #[] #[]]:=.cons (.yl e3) .nil
    obtain ⟨gf,p,q,f1,f2,f3⟩:=Zou hτ hφ hrun h r2 rg ry
    rw [e1] at f3
    refine ⟨E.w.heap.size+1,_,_,⟨.fn (.func gf) q,p++#[.func (.yield (E.w.heap.size+1)) #[] #[]]⟩,(E.w.alloc (.deferred (some []))).alloc (.loop { state:=.ready,pending:=none,fn,tmps:=a.tmps,params:=ps,assign,body,defers:=E.w.heap.size }),
     gf,p++#[.func (.yield (E.w.heap.size+1)) #[] #[]]++q,(E.w.alloc (.deferred (some []))).alloc (.loop { state:=.ready,pending:=none,fn,tmps:=a.tmps,params:=ps,assign,body,defers:=E.w.heap.size }),
     Zgg fn a.tmps ps assign body E.w,?_,fun _ _=>trivial,?_,fun h=>by simp [fz,Fence.wide] at h,?_⟩
    ·show (Deferred.ofValue (a.eval g) _).run P _=_
     rw [f1]
     simp [rangeCall,Deferred.ofValue,show ∀ c,a.eval (.const c)=c from fun _=>rfl]
    ·simp only [invoke]
     exact Zev f2 _ _
    ·have f3':=fun R hR=>f3 R hR
     simp only [List.toArray] at f3'
     refine f3' _ (fun u v s3 E' hi hq hr' _ hx=>?_)
     refine Zp4 hq hr' (fun hm=>?_) (fun e s' a' w' hi' hq' hr''=>hk e s' a' w' ?_ hq' hr'')
     ·exact hx _ _ hm e3
     ·refine Inv.trans ?_ (hi.trans hi')
      exact ⟨rfl,by simp only;omega,fun _ h=>List.mem_cons_of_mem _ h,fun _ h=>List.mem_cons_of_mem _ (List.mem_cons_of_mem _ h),fun _ h=>h,fun _ _=>rfl,fun k hk=>by
       simp only [List.mem_cons,not_or] at hk
       simp only;rw [Zo,if_neg (Ne.symm hk.1),Zo,if_neg (Ne.symm hk.2.1)],fun hn=>by simp at hn⟩
def Zwp (τ:ZaA) (κ:Zaf) (φ:Nat→Option FX) (D:DT):Nat→Zir
 | 0,_,_,_,_,_,_=>False
 | n+1,A,Y,ro,c,s,k=>Zd1 τ κ φ D (Zwp τ κ φ D n) A Y ro 0 c s k
theorem ZqR (hτ:Zbl P τ) (hκ:Zay P κ) (hφ:∀ g fi,φ g=some fi→fi.Ok P g) {D:DT} (hD:DOk P D):∀ n,Zf2 P (Zwp τ κ φ D n)
 | 0=>fun _ _ _ _ _ _ _ _ h=>h.elim
 | n+1=>fun A Y r c s k cx R h a w hr hk=>Ztq hτ hκ hφ hD (ZqR hτ hκ hφ hD n) c 0 s k R h a w hr hk
end Go.Proofs.YtgpdnmfpgkkgcaaGreatDoor
namespace Go.Proofs.YtgpdnmfpgkkgcaaGreatDoor
open Go
set_option linter.unusedVariables false
variable {P:Program} {τ:ZaA} {κ:Zaf} {φ:Nat→Option FX}
def fnW (τ:ZaA) (run:Zir) (A:An) (fi:FI) (ps:List PS) (rs:List Ty) (xs:Zb9 ps) (Q:Zbf rs→Prop):Prop:=match fi with
 | ⟨nt,res,code⟩=>match Zjw ps xs with
   | vs=>match Nat.ble vs.length nt with
     | false=>False
     | true=>run A [] false code ⟨nt,ZcL 0 vs,[],0,[],[],[],[]⟩ (fun e s=>match Zjq e with
       | false=>False
       | true=>match Zgp τ res s with
         | none=>False
         | some (v,s2)=>match ZtJ 9 s2.objs [v] with
           | some ([v'],_)=>match Znb rs v' with
             | some r=>Q r
             | none=>False
           | _=>False)
def fnV (τ:ZaA) (run:Zir) (A:An) (fi:FI) (ps:List PS) (xs:Zb9 ps) (Q:V→Prop):Prop:=match fi with
 | ⟨nt,res,code⟩=>match Zjw ps xs with
   | vs=>match Nat.ble vs.length nt with
     | false=>False
     | true=>run A [] false code ⟨nt,ZcL 0 vs,[],0,[],[],[],[]⟩ (fun e s=>match Zjq e with
       | false=>False
       | true=>match Zgp τ res s with
         | none=>False
         | some (v,s2)=>match ZtJ 9 s2.objs [v] with
           | some ([v'],_)=>Q v'
           | _=>False)
theorem Zgu {w:World} {S:Nat→Prop} (hS:Sok P w S):Zak P ⟨w,S,fun _=>none⟩ [] :=
 ⟨fun l o h=>(by cases h),fun b h=>(by obtain ⟨l,o,L,h,_⟩:=h;cases h),hS.lt,hS.tab,fun i j o o' L L' h=>(by cases h)⟩
theorem Zmj (hτ : Zbl P τ) {run : Zir} (hrun : Zf2 P run) {A : An} {f : FuncId} {fi : FI} (hok : fi.Ok P f) {ps : List PS} {rs : List Ty} {xs : Zb9 ps} {Q : Zbf rs → Prop} (h : fnW τ run A fi ps rs xs Q) {w : World} {S : Nat → Prop}
 (hS:Sok P w S) {args:Array Value} (ra:Zbr P ⟨w,S,fun _=>none⟩ (Zjw ps xs) args.toList) :
 Calls P f args w fun e w2=>∃ v S2 r,e=.returned v∧Zhq w S w2 S2∧Rep P ⟨w2,S2,fun _=>none⟩ (Zbv rs r) v∧Q r:=by
 obtain ⟨nt,res,code⟩:=fi
 obtain ⟨fn,h1,h2,h3,h4,h5⟩:=id hok
 unfold fnW at h
 simp only at h h3 h4
 split at h
 ·exact h.elim
 ·rename_i hlen
  have g0:Zak P ⟨w,S,fun _=>none⟩ []:=Zgu hS
  have hrel:=ZeB (nx:=0) (nt:=nt) g0 (fun _ _=>rfl) ra (Nat.le_of_ble_eq_true hlen)
  have hin:CallsIn (fz none) 0 P f args w fun e w2=>∃ v S2 r,e=.returned v∧Zhq w S w2 S2∧Rep P ⟨w2,S2,fun _=>none⟩ (Zbv rs r) v∧Q r:=by
   refine callsIn_of_wp_marks h1 h2 trivial ?_
   rw [h3]
   refine hrun A [] none code _ _ ⟨⟨w,S,fun _=>none⟩,[]⟩ _ h _ w hrel (fun e s1 a1 w1 hi hk hr1=>?_)
   have fin:Zjq e=true→LeavesInM (fz none) 0 P fn a1.tmps (fun e w2=>∃ v S2 r,e=.returned v∧Zhq w S w2 S2∧Rep P ⟨w2,S2,fun _=>none⟩ (Zbv rs r) v∧Q r) a1.defers .returning w1:=fun he=>by
    rw [he] at hk
    simp only at hk
    split at hk
    ·exact hk.elim
    ·rename_i v s2 hf
     split at hk
     ·rename_i v' ks hl
      split at hk
      ·rename_i r hr
       refine Zgm hτ (fi:=⟨nt,res,code⟩) h4 hf hr1 (fun u E' haft hu=>?_)
       have hno:∀ b,¬ Zdj ⟨w,S,fun _=>none⟩ [] b:=fun b h=>(by obtain ⟨l,o,L,h,_⟩:=h;cases h)
       obtain ⟨S',k1,k2,_,k4,k5,k6⟩:=Zkv hl haft.good (.cons hu .nil)
       have st:=haft.step
       refine ⟨u,S',r,rfl,⟨haft.drawn,st.os,st.tape,st.output,st.size,fun b hb=>st.frame b hb (hno b),fun b hb=>k1 b (st.ext.S b hb).1,fun b hb=>?_,k2⟩,Znz (Zh3 hr k5.head),hk⟩
       rcases k6 b hb with h | h
       ·rcases st.st b h with h | h | h
        ·exact .inl h
        ·exact .inr h
        ·exact absurd h (hno b)
       ·rcases st.own b h with h | h
        ·exact .inr h
        ·exact absurd h (hno b)
      ·exact hk.elim
     ·exact hk.elim
   cases e with
   | normal=>exact fin rfl
   | ret=>exact fin rfl
   | _=>exact hk.elim
  exact callsIn_wide.1 hin
theorem ZrD (hτ : Zbl P τ) {run : Zir} (hrun : Zf2 P run) {A : An} {f : FuncId} {fi : FI} (hok : fi.Ok P f) {ps : List PS} {xs : Zb9 ps} {Q : V → Prop} (h : fnV τ run A fi ps xs Q) {w : World} {S : Nat → Prop}
 (hS:Sok P w S) {args:Array Value} (ra:Zbr P ⟨w,S,fun _=>none⟩ (Zjw ps xs) args.toList) :
 Calls P f args w fun e w2=>∃ v S2 r,e=.returned v∧Zhq w S w2 S2∧Rep P ⟨w2,S2,fun _=>none⟩ r v∧Q r:=by
 obtain ⟨nt,res,code⟩:=fi
 obtain ⟨fn,h1,h2,h3,h4,h5⟩:=id hok
 unfold fnV at h
 simp only at h h3 h4
 split at h
 ·exact h.elim
 ·rename_i hlen
  have g0:Zak P ⟨w,S,fun _=>none⟩ []:=Zgu hS
  have hrel:=ZeB (nx:=0) (nt:=nt) g0 (fun _ _=>rfl) ra (Nat.le_of_ble_eq_true hlen)
  have hin:CallsIn (fz none) 0 P f args w fun e w2=>∃ v S2 r,e=.returned v∧Zhq w S w2 S2∧Rep P ⟨w2,S2,fun _=>none⟩ r v∧Q r:=by
   refine callsIn_of_wp_marks h1 h2 trivial ?_
   rw [h3]
   refine hrun A [] none code _ _ ⟨⟨w,S,fun _=>none⟩,[]⟩ _ h _ w hrel (fun e s1 a1 w1 hi hk hr1=>?_)
   have fin:Zjq e=true→LeavesInM (fz none) 0 P fn a1.tmps (fun e w2=>∃ v S2 r,e=.returned v∧Zhq w S w2 S2∧Rep P ⟨w2,S2,fun _=>none⟩ r v∧Q r) a1.defers .returning w1:=fun he=>by
    rw [he] at hk
    simp only at hk
    split at hk
    ·exact hk.elim
    ·rename_i v s2 hf
     split at hk
     ·rename_i v' ks hl
      ·refine Zgm hτ (fi:=⟨nt,res,code⟩) h4 hf hr1 (fun u E' haft hu=>?_)
       have hno:∀ b,¬ Zdj ⟨w,S,fun _=>none⟩ [] b:=fun b h=>(by obtain ⟨l,o,L,h,_⟩:=h;cases h)
       obtain ⟨S',k1,k2,_,k4,k5,k6⟩:=Zkv hl haft.good (.cons hu .nil)
       have st:=haft.step
       refine ⟨u,S',v',rfl,⟨haft.drawn,st.os,st.tape,st.output,st.size,fun b hb=>st.frame b hb (hno b),fun b hb=>k1 b (st.ext.S b hb).1,fun b hb=>?_,k2⟩,Zj3 (E:=⟨E'.w,S',E'.loc⟩) (E':=⟨E'.w,S',fun _=>none⟩) (fun b hb=>⟨hb,rfl⟩) k5.head (by simp only [fkL] at k4;split at k4<;>first | (cases k4;done) | assumption),hk⟩
       rcases k6 b hb with h | h
       ·rcases st.st b h with h | h | h
        ·exact .inl h
        ·exact .inr h
        ·exact absurd h (hno b)
       ·rcases st.own b h with h | h
        ·exact .inr h
        ·exact absurd h (hno b)
     ·exact hk.elim
   cases e with
   | normal=>exact fin rfl
   | ret=>exact fin rfl
   | _=>exact hk.elim
  exact callsIn_wide.1 hin
def Zmx:(T:Ty)→T.den→Prop
 | .sl t,l=>List.length (α:=t.den) l≤9223372036854775807∧∀ x∈(l:List t.den),Zmx t x
 | .pair a b,x=>Zmx a x.1∧Zmx b x.2
 | _,_=>True
def ZlO:(ps:List PS)→Zb9 ps→Prop
 | [],_=>True
 | .d T::l,x=>Zmx T x.1∧ZlO l x.2
 | .e T::l,x=>Zmx T x.1∧ZlO l x.2
 | .f _ _::l,x=>ZlO l x.2
theorem ZeI {w:World} {S:Nat→Prop}:∀ {T:Ty} {x:T.den} {cs:List Value},Zbu w S T x cs→Zmx T x
 | .int _,_,_,_=>trivial
 | .bool,_,_,_=>trivial
 | .str,_,_,_=>trivial
 | .unit,_,_,_=>trivial
 | .pair a b,x,cs,⟨c1,c2,_,h1,h2⟩=>⟨ZeI h1,ZeI h2⟩
 | .sl t,l,cs,⟨a,c,_,hc,hl⟩=>⟨Nat.le_trans hc.1 hc.2,fun x hx=>by
  obtain ⟨i,hi⟩:=List.getElem?_of_mem hx
  obtain ⟨b,off,_,_,h⟩:=hl (fun e=>by subst e;simp at hi)
  obtain ⟨cs',h1,_⟩:=h i x hi
  exact ZeI h1⟩
theorem ZhM {E:Env}:∀ {T:Ty} {x:T.den},(∀ v∈flat T x,∃ c,Rep P E v c)→Zmx T x
 | .int _,_,_=>trivial
 | .bool,_,_=>trivial
 | .str,_,_=>trivial
 | .unit,_,_=>trivial
 | .pair a b,x,h=>⟨ZhM fun v hv=>h v (List.mem_append_left _ hv),ZhM fun v hv=>h v (List.mem_append_right _ hv)⟩
 | .sl t,l,h=>by
   obtain ⟨c,hc⟩:=h (.d (.sl t) l) (by simp [flat])
   exact ZeI (T:=.sl t) (Zg5 hc)
theorem Ztp {E:Env} {vs:List V} {cs:List Value} (r:Zbr P E vs cs) {v:V} (hv:v∈vs):∃ c,Rep P E v c:=by
 obtain ⟨i,hi⟩:=List.getElem?_of_mem hv
 have hlt:=(List.getElem?_eq_some_iff.1 hi).1
 have:=r.2 i hlt
 rw [List.getD_eq_getElem?_getD,hi] at this
 exact ⟨_,this⟩
theorem ZuQ {E:Env}:∀ {T:Ty} {x:T.den} {c:Value},Rep P E (ZpY T x) c→Zmx T x
 | .pair a b,x,c,r=>by
   obtain ⟨ca,rfl,rs⟩:=Zm5 (show Rep P E (.agg (flat (.pair a b) x)) c from r)
   exact ZhM fun v hv=>Ztp rs hv
 | .int _,_,_,_=>trivial
 | .bool,_,_,_=>trivial
 | .str,_,_,_=>trivial
 | .unit,_,_,_=>trivial
 | .sl t,l,c,r=>ZeI (T:=.sl t) (Zg5 r)
theorem Ze2 {E:Env}:∀ {ps:List PS} {xs:Zb9 ps} {cs:List Value},Zbr P E (Zjw ps xs) cs→ZlO ps xs
 | [],_,_,_=>trivial
 | .d T::l,x,c::cs,r=>⟨ZuQ r.head,Ze2 r.tail⟩
 | .d T::l,x,[],r=>absurd r.1 (by simp [Zjw])
 | .e T::l,x,c::cs,r=>by
   refine ⟨?_,Ze2 r.tail⟩
   have h:Rep P E (.er (flat T x.1)) c:=r.head
   cases h with
   | er f _ _ hr =>
     refine ZhM (P:=P) (E:=E) fun v hv=>?_
     obtain ⟨i,hi⟩:=List.getElem?_of_mem hv
     have hlt:=(List.getElem?_eq_some_iff.1 hi).1
     have:=hr i hlt
     rw [List.getD_eq_getElem?_getD,hi] at this
     exact ⟨_,this⟩
 | .e T::l,x,[],r=>absurd r.1 (by simp [Zjw])
 | .f _ _::l,x,c::cs,r=>Ze2 (ps:=l) r.tail
 | .f _ _::l,x,[],r=>absurd r.1 (by simp [Zjw])
theorem Ztk (hτ : Zbl P τ) {run : Zir} (hrun : Zf2 P run) {A : An} {f : FuncId} {fi : FI} (hok : fi.Ok P f) {ps : List PS} {rs : List Ty} {pre : Option (Zb9 ps → Prop)} {fn : Zb9 ps → Zbf rs}
 (h:∀ xs,ZlO ps xs→okP (Con.ob ⟨ps,pre,fun xs=>Zbv rs (fn xs)⟩ xs)→fnW τ run A fi ps rs xs (fun r=>r=fn xs)):Zaj P f ⟨ps,pre,fun xs=>Zbv rs (fn xs)⟩ :=
 ⟨hok.call,fun w S xs hS hp args ra=>Calls.mono (Zmj hτ hrun hok (h xs (Ze2 ra) hp) hS ra) fun e w2 ⟨v,S2,r,h1,h2,h3,h4⟩=>⟨v,S2,h1,h2,by subst h4;exact h3⟩⟩
theorem Zmb (hτ : Zbl P τ) {run : Zir} (hrun : Zf2 P run) {A : An} {f : FuncId} {fi : FI} (hok : fi.Ok P f) {c : Con}
 (h:∀ xs,ZlO c.ps xs→okP (c.ob xs)→fnV τ run A fi c.ps xs (fun r=>r=c.res xs)):Zaj P f c :=
 ⟨hok.call,fun w S xs hS hp args ra=>Calls.mono (ZrD hτ hrun hok (h xs (Ze2 ra) hp) hS ra) fun e w2 ⟨v,S2,r,h1,h2,h3,h4⟩=>⟨v,S2,h1,h2,by subst h4;exact h3⟩⟩
end Go.Proofs.YtgpdnmfpgkkgcaaGreatDoor
namespace Go.Proofs.YtgpdnmfpgkkgcaaGreatDoor
open Go
set_option linter.unusedVariables false
variable {P:Program} {τ:ZaA} {κ:Zaf} {φ:Nat→Option FX}
def ZwI (n:Nat) (l:List Nat):List Nat:=match ZdT n l with
 | true=>l
 | false=>n::l
def ZiC:List Nat→List Nat→List Nat
 | [],l=>l
 | n::r,l=>ZiC r (ZwI n l)
def ZeQ (i:Nat) (T:List (Nat×List Nat)):List Nat:=match Zp9 i T with
 | some l=>l
 | none=>[]
def Zrz (T:List (Nat×List Nat)):List Edge→List Nat
 | []=>[]
 | e::r=>match Region.binds .any e with
   | true=>ZwI e.on (ZiC (ZeQ e.on T) (Zrz T r))
   | false=>Zrz T r
def ZvI:Nat→List Oper→List (Nat×List Nat)→List (Nat×List Nat)
 | _,[],T=>T
 | i,⟨_,_,_,_,af,_⟩::r,T=>match Zrz T af.toList with
   | l=>ZvI (i+1) r ((i,l)::T)
def Zue (T:List (Nat×List Nat)) (j:Nat):List Edge→Bool
 | []=>false
 | e::r=>match Region.binds .any e with
   | true=>match Nat.beq e.on j with
     | true=>true
     | false=>match ZdT j (ZeQ e.on T) with
       | true=>true
       | false=>Zue T j r
   | false=>Zue T j r
def Zvb (T:List (Nat×List Nat)) (af:List Edge) (i:Nat):List Nat→Bool
 | []=>true
 | j::r=>match Zue T j af with
   | true=>match Nat.blt j i with
     | true=>Zvb T af i r
     | false=>false
   | false=>false
def inE (ps:List Nat):List Edge→Bool
 | []=>true
 | e::r=>match Region.binds .any e with
   | true=>match ZdT e.on ps with
     | true=>inE ps r
     | false=>false
   | false=>inE ps r
def Zl8 (T:List (Nat×List Nat)):Nat→List Oper→Bool
 | _,[]=>true
 | i,⟨_,_,_,_,af,_⟩::r=>match ZeQ i T with
   | ps=>match inE ps af.toList with
     | true=>match Zvb T af.toList i ps with
       | true=>Zl8 T (i+1) r
       | false=>false
     | false=>false
theorem Znj {ps:List Nat}:∀ {l:List Edge},inE ps l=true→∀ e∈l,Region.binds .any e=true→e.on∈ps
 | [],_,e,h,_=>by simp at h
 | e::r,h,e',he,hb=>by
   simp only [inE] at h
   split at h
   ·split at h
    ·rename_i h1
     rcases List.mem_cons.1 he with rfl | he
     ·exact Zby.1 h1
     ·exact Znj h e' he hb
    ·cases h
   ·rename_i h0
    rcases List.mem_cons.1 he with rfl | he
    ·rw [hb] at h0;cases h0
    ·exact Znj h e' he hb
theorem ZoY {T:List (Nat×List Nat)} {j:Nat}:∀ {l:List Edge},Zue T j l=true→∃ e∈l,Region.binds .any e=true∧(e.on=j∨j∈ZeQ e.on T)
 | [],h=>by cases h
 | e::r,h=>by
   simp only [Zue] at h
   have rec':Zue T j r=true→∃ e'∈e::r,Region.binds .any e'=true∧(e'.on=j∨j∈ZeQ e'.on T):=fun h=>by
    obtain ⟨e',h1,h2⟩:=ZoY h;exact ⟨e',List.mem_cons_of_mem _ h1,h2⟩
   split at h
   ·rename_i hb
    split at h
    ·rename_i h1;exact ⟨e,by simp,hb,.inl (Nat.eq_of_beq_eq_true h1)⟩
    ·split at h
     ·rename_i h1;exact ⟨e,by simp,hb,.inr (Zby.1 h1)⟩
     ·exact rec' h
   ·exact rec' h
theorem Zln {T:List (Nat×List Nat)} {af:List Edge} {i:Nat}:∀ {l:List Nat},Zvb T af i l=true→∀ j∈l,Zue T j af=true∧j < i
 | [],_,j,h=>by simp at h
 | k::r,h,j,hj=>by
   simp only [Zvb] at h
   split at h
   ·rename_i h1
    split at h
    ·rename_i h2
     rcases List.mem_cons.1 hj with rfl | hj
     ·exact ⟨h1,Nat.le_of_ble_eq_true h2⟩
     ·exact Zln h j hj
    ·cases h
   ·cases h
structure PT (ops:Array Oper) (T:List (Nat×List Nat)):Prop where
 lt:∀ i j,i < ops.size→j∈ZeQ i T→j < i
 edge:∀ i o e,ops[i]?=some o→e∈o.after→Region.binds .any e=true→e.on∈ZeQ i T
 back:∀ i o j,ops[i]?=some o→j∈ZeQ i T→∃ e∈o.after,Region.binds .any e=true∧(e.on=j∨j∈ZeQ e.on T)
theorem ZjQ {T:List (Nat×List Nat)}:∀ {l:List Oper} {i j:Nat} {o:Oper},Zl8 T i l=true→l[j]?=some o→inE (ZeQ (i+j) T) o.after.toList=true∧Zvb T o.after.toList (i+j) (ZeQ (i+j) T)=true
 | [],_,_,_,_,h=>by simp at h
 | ⟨_,_,_,_,af,_⟩::r,i,j,o,h,hj=>by
   simp only [Zl8] at h
   split at h
   ·rename_i h1
    split at h
    ·rename_i h2
     cases j with
     | zero=>simp at hj;subst hj;exact ⟨h1,h2⟩
     | succ j =>
       have:=ZjQ (j:=j) h (by simpa using hj)
       rw [show i+1+j=i+(j+1) from by omega] at this
       exact this
    ·cases h
   ·cases h
theorem PT.of {ops:Array Oper} {T:List (Nat×List Nat)} (h:Zl8 T 0 ops.toList=true):PT ops T:=by
 have get:∀ i o,ops[i]?=some o→inE (ZeQ i T) o.after.toList=true∧Zvb T o.after.toList i (ZeQ i T)=true:=fun i o hi=>by
  have:=ZjQ (i:=0) (j:=i) h (by simpa using hi)
  simpa using this
 refine ⟨fun i j hi hj=>?_,fun i o e hi he hb=>Znj (get i o hi).1 e (Array.mem_toList_iff.2 he) hb,fun i o j hi hj=>?_⟩
 ·exact (Zln (get i ops[i] (Array.getElem?_eq_getElem hi)).2 j hj).2
 ·obtain ⟨e,h1,h2,h3⟩:=ZoY (Zln (get i o hi).2 j hj).1
  exact ⟨e,Array.mem_toList_iff.1 h1,h2,h3⟩
structure Rc where
 i:Nat
 dst:Option Nat
 v:V
 ed:ZaC
 ks:List Nat
def ZlJ:ZaC→List Nat
 | []=>[]
 | (l,_)::r=>l::ZlJ r
theorem Zct {l:Nat}:∀ {a b:ZaC},Zy l (a++b)=(match Zy l a with | some o=>some o | none=>Zy l b)
 | [],_=>rfl
 | (k,o)::r,b=>by
   rw [List.cons_append,Zo,Zo]
   split
   ·rfl
   ·exact Zct
theorem Zeg {l:Nat} {o:Obj}:∀ {a:ZaC},Zy l a=some o→l∈ZlJ a
 | [],h=>by cases h
 | (k,p)::r,h=>by
   rw [Zo] at h
   split at h
   ·rename_i e;simp [ZlJ,e]
   ·exact List.mem_cons_of_mem _ (Zeg h)
def Rc.app (r:Rc) (s:St):St:=match r,s with
 | ⟨_, dst, v, ed, _⟩, ⟨nt, tmps, objs, nx, df, wr, di, mv⟩ => ⟨nt, (match dst with
  | some d=>(d,v)::tmps
  | none=>tmps),ed++objs,nx,df,(match dst with
  | some d=>d::wr
  | none=>wr),ZlJ ed++di,mv⟩
def replay (p:Nat→Bool):List Rc→St→St
 | [],s=>s
 | r::rs,s=>replay p rs (if p r.i then r.app s else s)
def Zee (p:Nat→Bool) (t:Nat):List Rc→Option V
 | []=>none
 | r::rs=>match Zee p t rs with
   | some v=>some v
   | none=>if p r.i=true∧r.dst=some t then some r.v else none
def ZdR (p:Nat→Bool) (l:Nat):List Rc→Option Obj
 | []=>none
 | r::rs=>match ZdR p l rs with
   | some o=>some o
   | none=>if p r.i=true then Zy l r.ed else none
theorem Zlf {r:Rc} {s:St} {t:Nat}:Zbw t (r.app s).tmps=if r.dst=some t then r.v else Zbw t s.tmps:=by
 obtain ⟨i,dst,v,ed,ks⟩:=r
 cases s
 cases dst with
 | none=>simp [Rc.app]
 | some d=>simp [Rc.app,Zas]
theorem Zop {r:Rc} {s:St} {l:Nat}:Zy l (r.app s).objs=(match Zy l r.ed with | some o=>some o | none=>Zy l s.objs):=by
 obtain ⟨i,dst,v,ed,ks⟩:=r
 cases s
 simp only [Rc.app,Zct]
theorem Zdh {p:Nat→Bool} {t:Nat}:∀ {R:List Rc} {s:St},Zbw t (replay p R s).tmps=(match Zee p t R with | some v=>v | none=>Zbw t s.tmps)
 | [],_=>rfl
 | r::rs,s=>by
   simp only [replay,Zee]
   rw [Zdh (R:=rs)]
   cases h:Zee p t rs with
   | some v=>rfl
   | none =>
     simp only
     by_cases hp:p r.i=true
     ·rw [if_pos hp,Zlf]
      by_cases hd:r.dst=some t
      ·rw [if_pos hd,if_pos ⟨hp,hd⟩]
      ·rw [if_neg hd,if_neg (fun h=>hd h.2)]
     ·rw [if_neg hp,if_neg (fun h=>hp h.1)]
theorem Zc8 {p:Nat→Bool} {l:Nat}:∀ {R:List Rc} {s:St},Zy l (replay p R s).objs=(match ZdR p l R with | some o=>some o | none=>Zy l s.objs)
 | [],_=>rfl
 | r::rs,s=>by
   simp only [replay,ZdR]
   rw [Zc8 (R:=rs)]
   cases h:ZdR p l rs with
   | some v=>rfl
   | none =>
     simp only
     by_cases hp:p r.i=true
     ·rw [if_pos hp,if_pos hp,Zop]
     ·rw [if_neg hp,if_neg hp]
theorem Zd3 {p:Nat→Bool}:∀ {R:List Rc} {s:St},(replay p R s).nt=s.nt∧(replay p R s).nx=s.nx∧(replay p R s).df=s.df∧(replay p R s).mv=s.mv
 | [],_=>⟨rfl,rfl,rfl,rfl⟩
 | r::rs,s=>by
   have h:=Zd3 (p:=p) (R:=rs) (s:=if p r.i then r.app s else s)
   have e:(if p r.i then r.app s else s).nt=s.nt∧(if p r.i then r.app s else s).nx=s.nx∧(if p r.i then r.app s else s).df=s.df∧(if p r.i then r.app s else s).mv=s.mv:=by
    split
    ·cases s;exact ⟨rfl,rfl,rfl,rfl⟩
    ·exact ⟨rfl,rfl,rfl,rfl⟩
   exact ⟨h.1.trans e.1,h.2.1.trans e.2.1,h.2.2.1.trans e.2.2.1,h.2.2.2.trans e.2.2.2⟩
theorem Zfr {p q:Nat→Bool} {l:Nat}:∀ {R:List Rc},(∀ r∈R,∀ o,Zy l r.ed=some o→p r.i=q r.i)→ZdR p l R=ZdR q l R
 | [],_=>rfl
 | r::rs,h=>by
   simp only [ZdR]
   rw [Zfr (R:=rs) (fun r' hr'=>h r' (List.mem_cons_of_mem _ hr'))]
   have h0:=h r (by simp)
   cases hed:Zy l r.ed with
   | none=>simp
   | some x=>rw [h0 x hed]
theorem ZfE {p q:Nat→Bool} {t:Nat}:∀ {R:List Rc},(∀ r∈R,r.dst=some t→p r.i=q r.i)→Zee p t R=Zee q t R
 | [],_=>rfl
 | r::rs,h=>by
   simp only [Zee]
   rw [ZfE (R:=rs) (fun r' hr'=>h r' (List.mem_cons_of_mem _ hr'))]
   by_cases hk:r.dst=some t
   ·rw [h r (by simp) hk]
   ·rw [if_neg (fun h=>hk h.2),if_neg (fun h=>hk h.2)]
theorem Rel.congr {cx:Cx} {s s':St} {a:Act} {E:Env} (r:Zcw P cx s a E) (ht:∀ t,Zbw t s'.tmps=Zbw t s.tmps) (ho:∀ l,Zy l s'.objs=Zy l s.objs) (hnt:s'.nt=s.nt) (hdf:s'.df=s.df) (hmv:s'.mv=s.mv) (hf:∀ l,s'.nx≤l→E.loc l=none):Zcw P cx s' a E:=by
 have tr:∀ l o,Zy l s'.objs=some o→∃ o1 L,Zy l s.objs=some o1∧E.loc l=some L∧E.loc l=some L∧(∀ L,o.has L→o1.has L)∧(ZaY P E L o1→ZaY P E L o):=fun l o h=>by
  rw [ho] at h
  obtain ⟨L,hL,_⟩:=r.good.at_ l o h
  exact ⟨o,L,h,hL,hL,fun _ h=>h,fun h=>h⟩
 exact ⟨r.good.sub rfl rfl tr,hf,by rw [hmv];exact r.step.swap tr (fun l hl=>by rw [ho] at hl;exact hl),r.drawn,by rw [hnt];exact r.size,by rw [hdf];exact r.df,fun t=>by rw [ht];exact r.rep t⟩
end Go.Proofs.YtgpdnmfpgkkgcaaGreatDoor
namespace Go.Proofs.YtgpdnmfpgkkgcaaGreatDoor
open Go
set_option linter.unusedVariables false
variable {P:Program} {τ:ZaA} {κ:Zaf} {φ:Nat→Option FX}
mutual
def V.ks:V→List Nat
 | .fn _ a b=>ZiC (ksL a) (ksL b)
 | .agg cs=>ksL cs
 | .tup cs=>ksL cs
 | .er cs=>ksL cs
 | .when _ v=>V.ks v
 | .opt _ v=>V.ks v
 | .ref k _=>[k]
 | .rref k _ _=>[k]
 | .osl k=>[k]
 | .osp k _ _=>[k]
 | .map k=>[k]
 | .yl k=>[k]
 | .bsl k _=>[k]
 | _=>[]
def ksL:List V→List Nat
 | []=>[]
 | v::r=>ZiC (V.ks v) (ksL r)
end
def Znk (objs:ZaC):List Nat→ZaC
 | []=>[]
 | l::r=>match Zy l objs with
   | some o=>(l,o)::Znk objs r
   | none=>Znk objs r
def Zkz (objs:ZaC):List Nat→List Nat
 | []=>[]
 | l::r=>match Zy l objs with
   | some (.box cs) | some (.vrow _ _ cs _)=>ZiC (ksL cs) (Zkz objs r)
   | _=>Zkz objs r
def Zu3 (op:Op) (objs:ZaC) (ks:List Nat):List Nat:=match op with
 | .load .. | .fieldAddr .. | .indexAddr ..=>ks
 | _=>match ZiC (Zkz objs ks) ks with
   | k1=>ZiC (Zkz objs k1) k1
theorem ZiQ {objs:ZaC} {l:Nat} {o:Obj}:∀ {ks:List Nat},Zy l (Znk objs ks)=some o→l∈ks∧Zy l objs=some o
 | [],h=>by cases h
 | k::r,h=>by
   simp only [Znk] at h
   split at h
   ·rename_i p hp
    rw [Zo] at h
    split at h
    ·rename_i e;subst e;cases h;exact ⟨by simp,hp⟩
    ·have:=ZiQ h;exact ⟨List.mem_cons_of_mem _ this.1,this.2⟩
   ·have:=ZiQ h;exact ⟨List.mem_cons_of_mem _ this.1,this.2⟩
def ZqT (T:List (Nat×List Nat)) (ds:List (Nat×Nat)) (i:Nat) (base cur:List (Nat×V)) (t:Nat):V:=match Zp9 t ds with
 | none=>Zbw t base
 | some j=>match ZdT j (ZeQ i T) with
   | true=>Zbw t cur
   | false=>match Nat.beq j i with
     | true=>Zbw t base
     | false=>match ZdT i (ZeQ j T) with
       | true=>Zbw t base
       | false=>.any
def ZnE (T:List (Nat×List Nat)) (ds:List (Nat×Nat)) (i:Nat) (base cur:List (Nat×V)):List Operand→List (Nat×V)
 | []=>[]
 | .tmp t::r=>(t,ZqT T ds i base cur t)::ZnE T ds i base cur r
 | _::r=>ZnE T ds i base cur r
theorem ZhR {T:List (Nat×List Nat)} {ds:List (Nat×Nat)} {i:Nat} {base cur:List (Nat×V)} {t:Nat}:∀ {l:List Operand},Zbw t (ZnE T ds i base cur l)=ZqT T ds i base cur t∨Zbw t (ZnE T ds i base cur l)=.any
 | []=>.inr rfl
 | x::r=>by
   cases x with
   | tmp u =>
     simp only [ZnE,Zas]
     split
     ·rename_i e;subst e;exact .inl rfl
     ·exact ZhR (l:=r)
   | _=>exact ZhR (l:=r)
def Zsk (op:Op) (out:Out):Out:=match op with
 | .buildSlice _ (_+1) _=>match out with
   | ⟨ob,.osl k,some (l,.row T xs,false)⟩=>match Nat.beq k l with
     | true=>⟨ob,.d (.sl T) xs,some (l,.dead,false)⟩
     | false=>out
   | o=>o
 | _=>out
theorem Zrc (op:Op) (out:Out):(Zsk op out).ob=out.ob:=by
 unfold Zsk
 split
 ·split
  ·split<;>rfl
  ·rfl
 ·rfl
theorem ZoJ {r:Option Nat} {o:Oper} {a:Act} {E:Env} {objs:ZaC} {out:Out} (op:Op) (h:Did P r o a E objs out):Did P r o a E objs (Zsk op out):=by
 unfold Zsk
 split
 ·split
  ·rename_i ob k l T xs
   split
   ·rename_i hk
    have hk:=Nat.eq_of_beq_eq_true hk
    subst hk
    intro next Q hn
    refine h next Q (fun E' v g st hdr hv=>?_)
    have ho:Zy k ((k,Obj.row T xs)::objs)=some (.row T xs):=by rw [Zo,if_pos rfl]
    obtain ⟨L,hL,_⟩:=g.at_ k _ ho
    obtain ⟨g2,s2⟩:=g.still ho hL
    have hr:=Zje g ho hL rfl (v:=.osl k) rfl hv
    simp only [frz,Nat.beq_refl] at hr
    have tr : ∀ l' o, Zy l' ((k, Obj.dead) :: objs) = some o → ∃ o1 L', Zy l' ((k, Obj.dead) :: (k, .row T xs) :: objs) = some o1 ∧ (E'.still L.b ((Obj.row T xs).has L)).loc l' = some L' ∧ (E'.still L.b ((Obj.row T xs).has L)).loc l' = some L' ∧ (∀ L, o.has L → o1.has L) ∧
     (ZaY P (E'.still L.b ((Obj.row T xs).has L)) L' o1→ZaY P (E'.still L.b ((Obj.row T xs).has L)) L' o):=by
     intro l' o h
     have:Zy l' ((k,Obj.dead)::(k,.row T xs)::objs)=some o:=by
      rw [Zo] at h ⊢
      split at h
      ·rename_i e;rw [if_pos e];exact h
      ·rename_i e;rw [if_neg e,Zo,if_neg e];exact h
     obtain ⟨L',hL',_⟩:=g2.at_ l' o this
     exact ⟨o,L',this,hL',hL',fun _ h=>h,fun h=>h⟩
    refine hn (E'.still L.b ((Obj.row T xs).has L)) v (g2.sub rfl rfl tr) (Zcj.swap (P:=P) (by simpa [moved,edit] using st.trans s2) tr (fun l' hl'=>?_)) hdr hr
    obtain ⟨h1,h2⟩:=ZaT hl'
    rw [Zo,if_neg (Ne.symm h1),Zo,if_neg (Ne.symm h1)];exact h2
   ·exact h
  ·exact h
 ·exact h
def edM (op:Op) (os:ZaC) (n:Nat) (v:V):Option (Nat×Obj×Bool)→Option (V×ZaC)
 | none=>some (v,[])
 | some (l,o,false)=>match Nat.beq l n with
   | true=>some (v,[(l,o)])
   | false=>match Zy l os with
     | some _=>some (v,[(l,o)])
     | none=>none
 | some (l,o,true)=>match op with
   | .call { callee:=.builtin .append,.. }=>match o with
     | .row T zs=>some (.osl n,[(n,.row T zs),(l,.dead)])
     | _=>none
   | .call { callee:=.value _,.. }=>match o with
     | .row T zs=>some (.osl n,[(n,.row T zs),(l,.dead)])
     | _=>none
   | _=>none
def Zwg:List Nat→ZaC→List (Nat×V)→Option (List (Nat×V)×ZaC×ZaC)
 | [],os,tm=>some (tm,os,[])
 | k::r,os,tm=>match Zy k os with
   | some o=>match Zwg r ((k,.dead)::os) (Zck (frz k o) tm) with
     | some (tm',os',ds)=>some (tm',os',ds++[(k,.dead)])
     | none=>none
   | none=>none
def Zwj (τ:ZaA) (κ:Zaf) (op:Op) (tm:List (Nat×V)) (os:ZaC) (n:Nat):Option (Option Prop×V×ZaC):=match Zwg (ZpH τ κ op tm os) os tm with
 | none=>none
 | some (tm',os',ds)=>match ZtW τ κ op tm' os' n with
   | none=>none
   | some out=>match Zsk op out with
     | ⟨ob,v,ed⟩=>match edM op os' n v ed with
       | none=>none
       | some (v',es)=>some (ob,v',es++ds)
def ZwS (P:Program) (r:Option Nat) (o:Oper) (a:Act) (E:Env) (objs:ZaC) (v:V) (es:ZaC):Prop :=
 ∀ (next:Act→World→Prop) (Q:Zjj),(∀ E' u,Zak P E' (es++objs)→Zcj E objs E' (es++objs) []→E.w.drawn≤E'.w.drawn→Rep P E' v u→next (a.put o.dst u) E'.w)→o.wpIn (fz r) 0 P a E.w next Q
theorem Sub.cons {os objs:ZaC} (h:Sub os objs) (k:Nat) (o:Obj):Sub ((k,o)::os) ((k,o)::objs):=fun l x hx=>by
 rw [Zo] at hx ⊢
 split at hx
 ·rename_i e;rw [if_pos e];exact hx
 ·rename_i e;rw [if_neg e];exact h l x hx
theorem Zp8 {ρ : Operand → Value} {ops : List Operand} (hρ : ∀ x, (∃ t, x = .tmp t) ∨ ∀ E tm, Rep P E (evV tm x) (ρ x)) : ∀ {ks : List Nat} {os objs : ZaC} {tm tm' : List (Nat × V)} {os' ds : ZaC} {E : Env}, Zwg ks os tm = some (tm', os', ds) → Sub os objs → Zak P E objs → (∀ x ∈ ops, Rep P E (evV tm x) (ρ x)) →
 ∃ E',E'.w=E.w∧E'.loc=E.loc∧Zak P E' (ds++objs)∧Zcj E objs E' (ds++objs) []∧Sub os' (ds++objs)∧(∀ x∈ops,Rep P E' (evV tm' x) (ρ x))∧(∀ l x,Zy l ds=some x→∃ y,Zy l os=some y)∧(∀ l x,Zy l os'=some x→∃ y,Zy l os=some y)
 | [],os,objs,tm,tm',os',ds,E,h,hs,g,hr=>by
   cases h
   exact ⟨E,rfl,rfl,g,.refl _ _ _,hs,hr,fun l x h=>(by cases h),fun l x h=>⟨x,h⟩⟩
 | k::r,os,objs,tm,tm',os',ds,E,h,hs,g,hr=>by
   simp only [Zwg] at h
   split at h
   ·rename_i o ho
    split at h
    ·rename_i tm2 os2 ds2 h2
     cases h
     obtain ⟨L,hL,_⟩:=g.at_ k o (hs k o ho)
     obtain ⟨g1,s1⟩:=g.still (hs k o ho) hL
     have hx:Ext E (E.still L.b (o.has L)) []:=⟨fun b hs=>⟨.inl hs,rfl⟩,fun j K _ hK=>hK⟩
     have hr1:∀ x∈ops,Rep P (E.still L.b (o.has L)) (evV (Zck (frz k o) tm) x) (ρ x):=fun x hx'=>by
      rcases hρ x with ⟨t,rfl⟩ | h
      ·show Rep P _ (Zbw t (Zck _ tm)) _
       rw [Zcg,ZcA]
       exact Zb8 hx.S (fun v c hr h=>Zje g (hs k o ho) hL rfl hr h) (hr _ hx')
      ·exact h _ _
     obtain ⟨E',e1,e2,g2,s2,k1,k2,k3,k4⟩:=Zp8 hρ h2 (hs.cons k .dead) g1 hr1
     have ee:ds2++(k,Obj.dead)::objs=ds2++[(k,.dead)]++objs:=by simp
     rw [ee] at g2 s2 k1
     have back:∀ l,(∃ y,Zy l ((k,Obj.dead)::os)=some y)→∃ y,Zy l os=some y:=fun l ⟨y,hy⟩=>by
      rw [Zo] at hy
      split at hy
      ·rename_i e;subst e;exact ⟨o,ho⟩
      ·exact ⟨y,hy⟩
     refine ⟨E',e1,e2,g2,by simpa using s1.trans s2,k1,k2,fun l x hl=>?_,fun l x hl=>back l (k4 l x hl)⟩
     rw [Zct] at hl
     split at hl
     ·rename_i y hy;exact back l (k3 l y hy)
     ·rw [Zo] at hl
      split at hl
      ·rename_i e;subst e;exact ⟨o,ho⟩
      ·cases hl
    ·cases h
   ·cases h
theorem ZoW (hτ : Zbl P τ) (hκ : Zay P κ) {r : Option Nat} {o : Oper} {tm : List (Nat × V)} {os objs : ZaC} {n : Nat} {ob : Option Prop} {v : V} {es : ZaC} {E : Env} {a : Act} (h : Zwj τ κ o.op tm os n = some (ob, v, es)) (hs : Sub os objs) (ho : okP ob) (g : Zak P E objs)
 (hf:E.loc n=none) (hr:∀ x∈o.op.operands,Rep P E (evV tm x) (a.eval x)):ZwS P r o a E objs v es∧(∀ l x,Zy l es=some x→l=n∨∃ y,Zy l os=some y):=by
 unfold Zwj at h
 split at h
 ·cases h
 ·rename_i tm' os' ds hfz
  have hρ:∀ x,(∃ t,x=Operand.tmp t)∨∀ E tm,Rep P E (evV tm x) (a.eval x):=fun x=>by
   cases x with
   | tmp t=>exact .inl ⟨t,rfl⟩
   | const v=>exact .inr fun E tm=>Ze1 v
   | global g=>exact .inr fun E tm=>.any _
   | func f=>exact .inr fun E tm=>.fn rfl rfl (fun j hj=>by simp at hj) (fun j hj=>by simp at hj)
  obtain ⟨E1,e1,e2,g1,s1,k1,k2,k3,k4⟩:=Zp8 (ops:=o.op.operands.toList) hρ hfz hs g (fun x hx=>hr x (Array.mem_toList_iff.1 hx))
  split at h
  ·cases h
  ·rename_i out he
   generalize hdat:Zsk o.op out=out' at h
   obtain ⟨ob',v0,ed⟩:=out'
   simp only at h
   split at h
   ·cases h
   ·rename_i v' es' hed
    cases h
    have hob:okP out.ob:=by rw [← Zrc o.op out,hdat];exact ho
    have hf1:E1.loc n=none:=by rw [e2];exact hf
    have hd0:=ZhF (r:=r) (a:=a) hτ hκ he k1 hob g1 hf1 (fun x hx=>k2 x (Array.mem_toList_iff.2 hx))
    have hd1:=ZoJ o.op hd0
    rw [hdat] at hd1
    have plain:∀ es',(ed=none∧es'=[]∨∃ l x,ed=some (l,x,false)∧es'=[(l,x)])→ZwS P r o a E objs v0 (es'++ds):=by
     intro es' hes next Q hn
     have:=hd1 next Q
     rw [e1] at this
     refine this (fun E' u g' st hdr hu=>hn E' u ?_ ?_ hdr hu)
     ·rcases hes with ⟨rfl,rfl⟩ | ⟨l,x,rfl,rfl⟩
      ·exact g'
      ·exact g'
     ·rcases hes with ⟨rfl,rfl⟩ | ⟨l,x,rfl,rfl⟩
      ·simpa [edit,moved] using s1.trans st
      ·simpa [edit,moved] using s1.trans st
    have keys:∀ es',(∀ l x,Zy l es'=some x→l=n∨∃ y,Zy l os'=some y)→∀ l x,Zy l (es'++ds)=some x→l=n∨∃ y,Zy l os=some y:=fun es' hk l x hx=>by
     rw [Zct] at hx
     split at hx
     ·rename_i y hy
      rcases hk l y hy with h | ⟨z,hz⟩
      ·exact .inl h
      ·exact .inr (k4 l z hz)
     ·exact .inr (k3 l x hx)
    unfold edM at hed
    split at hed
    ·cases hed
     exact ⟨plain [] (.inl ⟨rfl,rfl⟩),keys [] (fun l x h=>by cases h)⟩
    ·rename_i l x
     split at hed
     ·rename_i hb
      cases hed
      exact ⟨plain _ (.inr ⟨l,x,rfl,rfl⟩),keys _ (fun l' x' h=>by
       rw [Zo] at h
       split at h
       ·rename_i e;rw [← e];exact .inl (Nat.eq_of_beq_eq_true hb)
       ·cases h)⟩
     ·split at hed
      ·rename_i y hy
       cases hed
       exact ⟨plain _ (.inr ⟨l,x,rfl,rfl⟩),keys _ (fun l' x' h=>by
        rw [Zo] at h
        split at h
        ·rename_i e;rw [← e];exact .inr ⟨y,hy⟩
        ·cases h)⟩
      ·cases hed
    ·rename_i l x
     obtain ⟨dst,op,ty,po,af,guard⟩:=o
     split at hed
     ·rename_i args tys hop
      split at hed
      ·rename_i T zs
       cases hed
       simp only at hop
       subst hop
       have hdo:out=⟨ob,v0,some (l,.row T zs,true)⟩:=by rw [← hdat];rfl
       subst hdo
       simp only [ZtW,eff] at he
       obtain ⟨al⟩:=args
       obtain ⟨tl⟩:=tys
       simp only [ZgD] at he
       split at he
       ·split at he
        ·rename_i t u _ x y e3
         obtain ⟨b,c,rfl,rfl,rfl⟩:=Zen e3
         have rb:=k2 b (by simp [Op.operands,Call.operands])
         have rc:=k2 c (by simp [Op.operands,Call.operands])
         obtain ⟨rfl,L,xs,c1,c2,w,K,row,c3,c4,c5,c6,c7⟩:=Zju (ty:=ty) hτ he k1 hob g1 rb rc
         obtain ⟨E',d1,d2,d3,d4⟩:=g1.remake c1 c2 hf1 c3 c4 c5 c6
         refine ⟨fun next Q hn=>⟨fun _ _=>trivial,?_⟩,keys _ (fun l' x' h=>?_)⟩
         ·rw [Oper.semAt_eq _ _ _ (fun c=>by simp)]
          have hrun:(execOp a.eval ⟨dst,.call { callee:=.builtin .append,args:=⟨[b,c]⟩,argTypes:=⟨[t,u]⟩ },ty,po,af,guard⟩).run P E.w=.ok (.value K.v) E'.w:=by
           have:execOp a.eval ⟨dst,.call { callee:=.builtin .append,args:=⟨[b,c]⟩,argTypes:=⟨[t,u]⟩ },ty,po,af,guard⟩=(do let v ← Builtin.append_ #[t,u] ty #[a.eval b,a.eval c];pure (Next.value v)):=by simp [execOp,resolve,invoke,builtin]
           rw [this,← e1,d1]
           simp [c7]
          rw [hrun]
          exact hn E' K.v (by simpa using d3) (by simpa using s1.trans d4) (by rw [← e1];exact Zga _ _ _ _ (by rw [d1];exact c7)) (.osl d2)
         ·rw [Zo] at h
          split at h
          ·rename_i e;exact .inl e.symm
          ·rw [Zo] at h
           split at h
           ·rename_i e
            subst e
            refine .inr ?_
            unfold ZdP at he
            split at he
            ·split at he
             ·split at he
              ·split at he
               ·split at he
                ·cases he
                ·split at he
                 ·split at he
                  ·rename_i hcs _;cases he;exact ⟨_,hcs⟩
                  ·cases he
                 ·cases he
                ·split at he
                 ·split at he
                  ·split at he
                   ·cases he
                   ·rename_i hcs _ _ _;cases he;exact ⟨_,hcs⟩
                  ·cases he
                 ·cases he
                ·cases he
               ·cases he
              ·split at he
               ·split at he
                ·split at he
                 ·cases he
                 ·split at he
                  ·split at he
                   ·rename_i hcs _;cases he;exact ⟨_,hcs⟩
                   ·cases he
                  ·cases he
                 ·cases he
                ·cases he
               ·cases he
             ·cases he
            ·cases he
           ·cases h
        ·cases he
       ·cases he
      ·cases hed
     ·rename_i x args tys hop
      split at hed
      ·rename_i T zs
       cases hed
       simp only at hop
       subst hop
       have hdo:out=⟨ob,v0,some (l,.row T zs,true)⟩:=by rw [← hdat];rfl
       subst hdo
       simp only [ZtW] at he
       split at he
       ·rename_i rc hrc
        obtain ⟨gf,q1,q2,T0,q3⟩:=Zrt hκ hrc he k1 hob g1 (k2 x (by simp [Op.operands,Call.operands])) (Zce fun y hy=>k2 y (by simp only [Op.operands,Call.operands];simp [Array.mem_toList_iff.1 hy]))
        rcases q3 with ⟨_,_,q4,_⟩ | ⟨l',L,xs,zs',q0,hL,q4,q5,hc⟩
        ·cases q4
        ·obtain ⟨rfl,hzz,_⟩:l=l'∧Obj.row T zs=Obj.row T0 zs'∧True:=by
          have:=Option.some.inj q5
          simp only [Prod.mk.injEq] at this
          exact ⟨this.1,this.2.1,trivial⟩
         cases hzz
         refine ⟨fun next Q hn=>?_,keys _ (fun l' x' h=>?_)⟩
         ·have hwp:=Ziu (r:=r) (o:=⟨dst,.call { callee:=.value x,args:=args,argTypes:=tys },ty,po,af,guard⟩) (a:=a) (E:=E1) rfl q1 q2 hc (next:=next) (Q:=Q) (by
           rintro e w2 ⟨K,rfl,row,c3,c4,c5,c6,c7⟩
           obtain ⟨E',d1,d2,d3,d4⟩:=g1.remake (k1 _ _ q0) hL hf1 c3 c4 c5 c6
           refine ⟨_,rfl,?_⟩
           rw [← d1]
           exact hn E' K.v (by simpa using d3) (by simpa using s1.trans d4) (by rw [← e1,d1];exact c7) (.osl d2))
          rw [e1] at hwp
          exact hwp
         ·rw [Zo] at h
          split at h
          ·rename_i e;exact .inl e.symm
          ·rw [Zo] at h
           split at h
           ·rename_i e;subst e;exact .inr ⟨_,q0⟩
           ·cases h
       ·split at he
        ·unfold Zot at he
         split at he
         ·split at he
          ·split at he<;>cases he
          ·cases he
         ·split at he
          ·split at he<;>cases he
          ·cases he
        ·split at he<;>cases he
      ·cases hed
     ·cases hed
def edG (n:Nat):Option (Nat×Obj×Bool)→Option ZaC
 | none=>some []
 | some (l,.dead,false)=>match Nat.beq l n with
   | true=>some [(l,.dead)]
   | false=>none
 | _=>none
def Zu8 (τ:ZaA) (κ:Zaf) (dec g:Bool) (i:Nat) (dst:Option Nat) (op:Op) (tm:List (Nat×V)) (os:ZaC) (ks:List Nat) (n:Nat):Option (Option Prop×Rc):=match dec with
 | false=>none
 | true=>match g with
   | true=>match Zwj τ κ op (Zrs op tm) os n with
     | some (ob,v,es)=>some (ZgM true (Zhl op tm) ob,⟨i,dst,v,es,ZlJ es++(V.ks v++ks)⟩)
     | none=>none
   | false=>some (none,⟨i,dst,.when false (.d .bool false),[],ks⟩)
theorem ZtL {dec g:Bool} {i:Nat} {dst:Option Nat} {op:Op} {tm:List (Nat×V)} {os:ZaC} {ks:List Nat} {n:Nat} {ob:Option Prop} {rc:Rc} (h:Zu8 τ κ dec g i dst op tm os ks n=some (ob,rc)):rc.i=i∧rc.dst=dst:=by
 unfold Zu8 at h
 split at h
 ·cases h
 ·split at h
  ·split at h
   ·cases h;exact ⟨rfl,rfl⟩
   ·cases h
  ·cases h;exact ⟨rfl,rfl⟩
def Zu9 (τ:ZaA) (κ:Zaf) (dec:Bool) (T:List (Nat×List Nat)) (ds:List (Nat×Nat)) (ops:List Oper) (n0:Nat) (base:List (Nat×V)) (i:Nat) (o:Oper) (cur:St):Option (Option Prop×Rc):=match o,cur with
 | ⟨dst,op,_,_,_,guard⟩,⟨_,tmps,objs,_,_,_,_,_⟩=>match ZnE T ds i base tmps op.operands.toList with
   | tm=>match Zu3 op objs (ksL (ZbN tm op.operands.toList)) with
     | ks=>match Znk objs ks with
       | os=>match guard with
         | none=>match Zwj τ κ op tm os (n0+i) with
           | some (ob,v,es)=>some (ob,⟨i,dst,v,es,ZlJ es++(V.ks v++ks)⟩)
           | none=>none
         | some (j,want)=>match ZvC ops j with
           | none=>none
           | some gd=>match Zic want (ZqT T ds i base tmps gd) with
             | none=>none
             | some g=>match ZtW τ κ op (Zrs op tm) os (n0+i) with
               | some out=>match Zsk op out with
                 | ⟨ob,v,ed⟩=>match edG (n0+i) ed with
                   | some es=>some (ZgM g (Zhl op tm) ob,⟨i,dst,.when g v,es,ZlJ es++(V.ks v++ks)⟩)
                   | none=>Zu8 τ κ dec g i dst op tm os ks (n0+i)
               | none=>Zu8 τ κ dec g i dst op tm os ks (n0+i)
def Zj9 (τ:ZaA) (κ:Zaf) (dec:Bool) (T:List (Nat×List Nat)) (ds:List (Nat×Nat)) (ops:List Oper) (n0:Nat) (base:List (Nat×V)):Nat→List Oper→St→Option (List (Option Prop)×List Rc×St)
 | _,[],s=>some ([],[],s)
 | i,o::r,s=>match Zu9 τ κ dec T ds ops n0 base i o s with
   | none=>none
   | some (ob,rc)=>match rc.app s with
     | ⟨nt,tmps,objs,nx,df,wr,di,mv⟩=>match Zj9 τ κ dec T ds ops n0 base (i+1) r ⟨nt,tmps,objs,nx,df,wr,di,mv⟩ with
       | none=>none
       | some (obs,R,s')=>some (ob::obs,rc::R,s')
def Zwv:List (Option Prop)→Prop→Prop
 | [],k=>k
 | ob::r,k=>ZuJ ob (Zwv r k)
theorem ZnU {k:Prop}:∀ {l:List (Option Prop)},Zwv l k→(∀ ob∈l,okP ob)∧k
 | [],h=>⟨fun ob hb=>by simp at hb,h⟩
 | ob::r,h=>by
   obtain ⟨h1,h2⟩:=ZkW h
   obtain ⟨h3,h4⟩:=ZnU h2
   exact ⟨fun q hq=>(List.mem_cons.1 hq).elim (fun e=>e▸h1) (h3 q),h4⟩
theorem Zd2 {p:Nat→Bool}:∀ {A B:List Rc} {s:St},replay p (A++B) s=replay p B (replay p A s)
 | [],_,_=>rfl
 | r::rs,B,s=>by simp only [List.cons_append,replay];exact Zd2
theorem ZfJ {p:Nat→Bool}:∀ {B:List Rc} {s:St},(∀ r∈B,p r.i=false)→replay p B s=s
 | [],_,_=>rfl
 | r::rs,s,h=>by
   simp only [replay]
   rw [h r (by simp)]
   exact ZfJ fun r' hr'=>h r' (List.mem_cons_of_mem _ hr')
theorem ZcF {p q:Nat→Bool}:∀ {B:List Rc} {s:St},(∀ r∈B,p r.i=q r.i)→replay p B s=replay q B s
 | [],_,_=>rfl
 | r::rs,s,h=>by
   simp only [replay]
   rw [h r (by simp)]
   exact ZcF fun r' hr'=>h r' (List.mem_cons_of_mem _ hr')
theorem ZqX {dec:Bool} {T:List (Nat×List Nat)} {ds:List (Nat×Nat)} {ops:List Oper} {n0:Nat} {base:List (Nat×V)} {i:Nat} {o:Oper} {cur:St} {ob:Option Prop} {rc:Rc} (h:Zu9 τ κ dec T ds ops n0 base i o cur=some (ob,rc)):rc.i=i∧rc.dst=o.dst:=by
 obtain ⟨dst,op,ty,po,af,guard⟩:=o
 cases cur
 simp only [Zu9] at h
 split at h
 ·split at h
  ·cases h;exact ⟨rfl,rfl⟩
  ·cases h
 ·split at h
  ·cases h
  ·split at h
   ·cases h
   ·split at h
    ·split at h
     ·cases h;exact ⟨rfl,rfl⟩
     ·exact ZtL h
    ·exact ZtL h
theorem ZjY {dec : Bool} {T : List (Nat × List Nat)} {ds : List (Nat × Nat)} {ops : List Oper} {n0 : Nat} {base : List (Nat × V)} {s0 : St} : ∀ {l : List Oper} {i : Nat} {cur send : St} {R0 R' : List Rc} {obs : List (Option Prop)},
 Zj9 τ κ dec T ds ops n0 base i l cur=some (obs,R',send)→(∀ r∈R0,r.i < i)→cur=replay (fun _=>true) R0 s0 →
 R'.Pairwise (fun a b=>a.i < b.i)∧(∀ r∈R',i≤r.i∧r.i < i+l.length)∧send=replay (fun _=>true) (R0++R') s0 ∧
  ∀ j o,l[j]?=some o→∃ ob rc,Zu9 τ κ dec T ds ops n0 base (i+j) o (replay (fun k=>decide (k < i+j)) (R0++R') s0)=some (ob,rc)∧ob∈obs∧rc∈R'
 | [],i,cur,send,R0,R',obs,h,h1,h2=>by
   simp only [Zj9,Option.some.injEq,Prod.mk.injEq] at h
   obtain ⟨rfl,rfl,rfl⟩:=h
   exact ⟨.nil,fun r hr=>by simp at hr,by simpa using h2,fun j o hj=>by simp at hj⟩
 | o::r,i,cur,send,R0,R',obs,h,h1,h2=>by
   simp only [Zj9] at h
   split at h
   ·cases h
   ·rename_i ob rc hrc
    split at h
    ·cases h
    ·rename_i obs2 R2 s2 hg
     cases h
     have hi:=(ZqX hrc).1
     have ih:=ZjY (R0:=R0++[rc]) hg (fun r hr=>by
      rcases List.mem_append.1 hr with hr | hr
      ·exact Nat.lt_succ_of_lt (h1 r hr)
      ·simp at hr;subst hr;omega) (by
      rw [Zd2,← h2];rfl)
     obtain ⟨k0,k1,k2,k3⟩:=ih
     have e:R0++[rc]++R2=R0++rc::R2:=by simp
     rw [e] at k2 k3
     refine ⟨List.pairwise_cons.2 ⟨fun r' hr'=>by have:=k1 r' hr';omega,k0⟩,fun r' hr'=>?_,k2,fun j o' hj=>?_⟩
     ·rcases List.mem_cons.1 hr' with rfl | hr'
      ·simp;omega
      ·have:=k1 r' hr';simp;omega
     ·cases j with
      | zero =>
        simp at hj;subst hj
        refine ⟨ob,rc,?_,by simp,by simp⟩
        have:replay (fun k=>decide (k < i+0)) (R0++rc::R2) s0=cur:=by
         rw [Zd2,ZfJ,h2]
         ·exact ZcF fun r' hr'=>by simpa using h1 r' hr'
         ·intro r' hr'
          rcases List.mem_cons.1 hr' with rfl | hr'
          ·simp;omega
          ·have:=k1 r' hr';simp;omega
        rw [this];exact hrc
      | succ j =>
        obtain ⟨ob',rc',m1,m2,m3⟩:=k3 j o' (by simpa using hj)
        rw [show i+1+j=i+(j+1) from by omega] at m1
        exact ⟨ob',rc',m1,List.mem_cons_of_mem _ m2,List.mem_cons_of_mem _ m3⟩
def Zo5:ZaC→List Nat→Bool
 | [],_=>true
 | (l,_)::r,ks=>match ZdT l ks with
   | true=>false
   | false=>Zo5 r ks
theorem ZoE {l:Nat} {o:Obj} {ks:List Nat}:∀ {e:ZaC},Zo5 e ks=true→Zy l e=some o→l∉ks
 | [],_,h=>by cases h
 | (k,p)::r,hd,h=>by
   simp only [Zo5] at hd
   split at hd
   ·cases hd
   ·rename_i hk
    rw [Zo] at h
    split at h
    ·rename_i e;subst e;exact fun hm=>by rw [Zby.2 hm] at hk;cases hk
    ·exact ZoE hd h
def ZnJ (T:List (Nat×List Nat)) (r:Rc):List Rc→Bool
 | []=>true
 | q::l=>match ZdT r.i (ZeQ q.i T) with
   | true=>ZnJ T r l
   | false=>match ZdT q.i (ZeQ r.i T) with
     | true=>ZnJ T r l
     | false=>match Zo5 r.ed q.ks with
       | true=>match Zo5 q.ed r.ks with
         | true=>ZnJ T r l
         | false=>false
       | false=>false
def Zql (T:List (Nat×List Nat)):List Rc→Bool
 | []=>true
 | r::l=>match ZnJ T r l with
   | true=>Zql T l
   | false=>false
def ZiU (nt:Nat) (ds:List (Nat×Nat)):List Rc→Bool
 | []=>true
 | ⟨i,some d,_,_,_⟩::l=>match Zp9 d ds with
   | some j=>match Nat.beq j i with
     | true=>match Nat.blt d nt with
       | true=>ZiU nt ds l
       | false=>false
     | false=>false
   | none=>false
 | _::l=>ZiU nt ds l
theorem ZhV {T:List (Nat×List Nat)} {r:Rc}:∀ {l:List Rc},ZnJ T r l=true→∀ q∈l,r.i∈ZeQ q.i T∨q.i∈ZeQ r.i T∨(Zo5 r.ed q.ks=true∧Zo5 q.ed r.ks=true)
 | [],_,q,h=>by simp at h
 | q'::l,h,q,hq=>by
   simp only [ZnJ] at h
   have key:(q=q'→r.i∈ZeQ q.i T∨q.i∈ZeQ r.i T∨(Zo5 r.ed q.ks=true∧Zo5 q.ed r.ks=true))→ZnJ T r l=true→r.i∈ZeQ q.i T∨q.i∈ZeQ r.i T∨(Zo5 r.ed q.ks=true∧Zo5 q.ed r.ks=true) :=
    fun h1 h2=>(List.mem_cons.1 hq).elim h1 (ZhV h2 q)
   split at h
   ·rename_i h1;exact key (fun e=>.inl (e▸Zby.1 h1)) h
   ·split at h
    ·rename_i h1;exact key (fun e=>.inr (.inl (e▸Zby.1 h1))) h
    ·split at h
     ·rename_i h1
      split at h
      ·rename_i h2;exact key (fun e=>.inr (.inr (e▸⟨h1,h2⟩))) h
      ·cases h
     ·cases h
theorem ZhY {T:List (Nat×List Nat)}:∀ {l:List Rc},Zql T l=true→∀ r∈l,∀ q∈l,r=q∨r.i∈ZeQ q.i T∨q.i∈ZeQ r.i T∨(Zo5 r.ed q.ks=true∧Zo5 q.ed r.ks=true)
 | [],_,r,h,_,_=>by simp at h
 | x::l,h,r,hr,q,hq=>by
   simp only [Zql] at h
   split at h
   ·rename_i h1
    rcases List.mem_cons.1 hr with hr1 | hr1
    ·rcases List.mem_cons.1 hq with hq1 | hq1
     ·exact .inl (hr1.trans hq1.symm)
     ·rw [hr1];exact .inr (ZhV h1 q hq1)
    ·rcases List.mem_cons.1 hq with hq1 | hq1
     ·rw [hq1]
      rcases ZhV h1 r hr1 with h | h | h
      ·exact .inr (.inr (.inl h))
      ·exact .inr (.inl h)
      ·exact .inr (.inr (.inr ⟨h.2,h.1⟩))
     ·exact ZhY h r hr1 q hq1
   ·cases h
theorem Zcu {nt:Nat} {ds:List (Nat×Nat)}:∀ {l:List Rc},ZiU nt ds l=true→∀ r∈l,∀ d,r.dst=some d→Zp9 d ds=some r.i∧d < nt
 | [],_,r,h,_,_=>by simp at h
 | ⟨i,dst,v,ed,ks⟩::l,h,r,hr,d,hd=>by
   cases dst with
   | none =>
     simp only [ZiU] at h
     rcases List.mem_cons.1 hr with rfl | hr
     ·cases hd
     ·exact Zcu h r hr d hd
   | some d' =>
     simp only [ZiU] at h
     split at h
     ·rename_i j hj
      split at h
      ·rename_i h1
       split at h
       ·rename_i h2
        rcases List.mem_cons.1 hr with rfl | hr
        ·cases hd
         rw [hj,Nat.eq_of_beq_eq_true h1]
         exact ⟨rfl,Nat.le_of_ble_eq_true h2⟩
        ·exact Zcu h r hr d hd
       ·cases h
      ·cases h
     ·cases h
end Go.Proofs.YtgpdnmfpgkkgcaaGreatDoor
namespace Go.Proofs.YtgpdnmfpgkkgcaaGreatDoor
open Go
set_option linter.unusedVariables false
variable {P:Program} {τ:ZaA} {κ:Zaf} {φ:Nat→Option FX}
theorem Zg4 {p:Nat→Bool} {l:Nat}:∀ {A B:List Rc},ZdR p l (A++B)=(match ZdR p l B with | some o=>some o | none=>ZdR p l A)
 | [],B=>by simp only [List.nil_append,ZdR];split<;>simp_all
 | r::A,B=>by
   simp only [List.cons_append,ZdR]
   rw [Zg4 (A:=A)]
   cases h:ZdR p l B with
   | some o=>rfl
   | none=>rfl
theorem Zhm {p:Nat→Bool} {l:Nat}:∀ {A B:List Rc},Zee p l (A++B)=(match Zee p l B with | some o=>some o | none=>Zee p l A)
 | [],B=>by simp only [List.nil_append,Zee];split<;>simp_all
 | r::A,B=>by
   simp only [List.cons_append,Zee]
   rw [Zhm (A:=A)]
   cases h:Zee p l B with
   | some o=>rfl
   | none=>rfl
theorem ZjU {p:Nat→Bool} {l:Nat}:∀ {A:List Rc},(∀ r∈A,∀ o,Zy l r.ed=some o→p r.i=false)→ZdR p l A=none
 | [],_=>rfl
 | r::A,h=>by
   simp only [ZdR]
   rw [ZjU (A:=A) (fun r' hr'=>h r' (List.mem_cons_of_mem _ hr'))]
   cases hed:Zy l r.ed with
   | none=>simp
   | some x=>simp [h r (by simp) x hed]
theorem ZdQ {p:Nat→Bool} {t:Nat}:∀ {A:List Rc},(∀ r∈A,r.dst=some t→p r.i=false)→Zee p t A=none
 | [],_=>rfl
 | r::A,h=>by
   simp only [Zee]
   rw [ZdQ (A:=A) (fun r' hr'=>h r' (List.mem_cons_of_mem _ hr'))]
   simp only
   rw [if_neg]
   rintro ⟨h1,h2⟩
   rw [h r (by simp) h2] at h1;cases h1
def Zmy (L:Nat→Bool) (i:Nat):Nat→Bool:=fun j=>L j||decide (j=i)
theorem Zs7 (hτ : Zbl P τ) (hκ : Zay P κ) {dec : Bool} {r : Option Nat} {cx : Cx} {ops : Array Oper} {T : List (Nat × List Nat)} (hT : PT ops T) {ds : List (Nat × Nat)} {n0 i : Nat} {o : Oper} {ob : Option Prop} {rc : Rc} {R : List Rc} {s0 : St}
 (hi:ops[i]?=some o) (hrc:Zu9 τ κ dec T ds ops.toList n0 s0.tmps i o (replay (fun k=>decide (k < i)) R s0)=some (ob,rc)) (ho:okP ob) (hmem:rc∈R) (hsort:R.Pairwise fun a b=>a.i < b.i) (hp:Zql T R=true) (hd:ZiU s0.nt ds R=true)
 (hlt:∀ q∈R,q.i < ops.size) (hnx:s0.nx=n0+ops.size) {L:Nat→Bool} (hL:L i=false) (hdown:∀ q∈R,L q.i=true→∀ j∈ZeQ q.i T,(∃ q'∈R,q'.i=j)→L j=true) (hpi:∀ j∈ZeQ i T,(∃ q'∈R,q'.i=j)→L j=true)
 {a:Act} {E:Env} (hr:Zcw P cx (replay L R s0) a E) (hf:∀ q∈R,L q.i=false→E.loc (n0+q.i)=none) {Q:Zjj} {K:Act→World→Prop}
 (hK:∀ a' E',Zcw P cx (replay (Zmy L i) R s0) a' E'→(∀ q∈R,Zmy L i q.i=false→E'.loc (n0+q.i)=none)→K a' E'.w):wpOpIn (fz r) 0 P ops Q i K a E.w:=by
 have hii:=(ZqX hrc).1
 have hdst:=(ZqX hrc).2
 have hilt:i < ops.size:=(Array.getElem?_eq_some_iff.1 hi).1
 have huniq:∀ q∈R,q.i=i→q=rc:=fun q hq e=>by
  rcases ZhY hp q hq rc hmem with h | h | h | _
  ·exact h
  ·rw [hii] at h;have:=hT.lt i q.i hilt h;omega
  ·rw [e] at h;rw [hii] at h;have:=hT.lt i i hilt h;omega
  ·obtain ⟨A,B,hAB⟩:=List.append_of_mem hmem
   rw [hAB] at hsort hq
   rw [List.pairwise_append] at hsort
   obtain ⟨_,h2,h3⟩:=hsort
   rcases List.mem_append.1 hq with h | h
   ·have:=h3 q h rc (by simp);omega
   ·rcases List.mem_cons.1 h with h | h
    ·exact h
    ·have:=(List.pairwise_cons.1 h2).1 q h;omega
 obtain ⟨A,B,hAB⟩:=List.append_of_mem hmem
 have hA:∀ q∈A,q.i < i:=fun q hq=>by
  rw [hAB,List.pairwise_append] at hsort
  have:=hsort.2.2 q hq rc (by simp);omega
 have hB:∀ q∈B,i < q.i:=fun q hq=>by
  rw [hAB,List.pairwise_append] at hsort
  have:=(List.pairwise_cons.1 hsort.2.1).1 q hq;omega
 have hord:∀ q∈R,∀ l x,Zy l q.ed=some x→l∈rc.ks→(decide (q.i < i))=L q.i∨q=rc:=fun q hq l x hed hl=>by
  rcases ZhY hp q hq rc hmem with h | h | h | h
  ·exact .inr h
  ·rw [hii] at h
   have h1:=hT.lt i q.i hilt h
   have h2:=hpi q.i h ⟨q,hq,rfl⟩
   rw [h2];left;simpa using h1
  ·rw [hii] at h
   have h1:=hT.lt q.i i (hlt q hq) h
   left
   cases hLq:L q.i with
   | false=>simp;omega
   | true=>rw [hdown q hq hLq i h ⟨rc,hmem,hii⟩] at hL;cases hL
  ·exact absurd hl (ZoE h.1 hed)
 have hobj:∀ l∈rc.ks,Zy l (replay (fun k=>decide (k < i)) R s0).objs=Zy l (replay L R s0).objs:=fun l hl=>by
  rw [Zc8,Zc8,Zfr (p:=fun k=>decide (k < i)) (q:=L)]
  intro q hq x hed
  rcases hord q hq l x hed hl with h | h
  ·exact h
  ·subst h;rw [hii,hL];simp
 have hval:∀ t,Rep P E (ZqT T ds i s0.tmps (replay (fun k=>decide (k < i)) R s0).tmps t) (a.tmps.getD t undef):=fun t=>by
  have hrep:=hr.rep t
  rw [Zdh] at hrep
  unfold ZqT
  split
  ·rename_i hn
   rw [ZdQ] at hrep
   ·exact hrep
   ·intro q hq hqd
    rw [(Zcu hd q hq t hqd).1] at hn;cases hn
  ·rename_i j hj
   have hq:∀ q∈R,q.dst=some t→q.i=j:=fun q hq hqd=>by
    have:=(Zcu hd q hq t hqd).1
    rw [hj] at this;cases this;rfl
   split
   ·rename_i hm
    rw [Zdh,ZfE (p:=fun k=>decide (k < i)) (q:=L)]
    ·exact hrep
    ·intro q hqm hqd
     have e:=hq q hqm hqd
     rw [e]
     have hm:=Zby.1 hm
     rw [hpi j hm ⟨q,hqm,e⟩]
     have:=hT.lt i j hilt hm
     simpa using this
   ·split
    ·rename_i he
     have he:=Nat.eq_of_beq_eq_true he
     rw [ZdQ] at hrep
     ·exact hrep
     ·intro q hqm hqd
      rw [hq q hqm hqd,he];exact hL
    ·split
     ·rename_i hm
      have hm:=Zby.1 hm
      rw [ZdQ] at hrep
      ·exact hrep
      ·intro q hqm hqd
       rw [hq q hqm hqd]
       cases hLj:L j with
       | false=>rfl
       | true =>
         have e:=hq q hqm hqd
         have:=hdown q hqm (by rw [e];exact hLj) i (by rw [e];exact hm) ⟨rc,hmem,hii⟩
         rw [hL] at this;cases this
     ·exact .any _
 have hdlt:∀ d,o.dst=some d→d < a.tmps.size:=fun d hdd=>by
  have:=(Zcu hd rc hmem d (hdst.trans hdd)).2
  have h1:a.tmps.size=s0.nt:=hr.size.trans (Zd3 (p:=L) (R:=R) (s:=s0)).1
  rw [h1];exact this
 have behind : ∀ E' u, Zak P E' (rc.ed ++ (replay L R s0).objs) → Zcj E (replay L R s0).objs E' (rc.ed ++ (replay L R s0).objs) [] → E.w.drawn ≤ E'.w.drawn → Rep P E' rc.v u →
  (∀ l x,Zy l rc.ed=some x→l=n0+i∨∃ y,Zy l (replay L R s0).objs=some y)→(∀ l x,Zy l rc.ed=some x→l∈rc.ks)→K (a.put o.dst u) E'.w:=by
  intro E' u g st hdr hu hkey hks
  obtain ⟨e1,e2,e3,e4⟩:=Zd3 (p:=L) (R:=R) (s:=s0)
  obtain ⟨f1,f2,f3,f4⟩:=Zd3 (p:=Zmy L i) (R:=R) (s:=s0)
  have hnone:∀ l,E.loc l=none→l≠n0+i→E'.loc l=none:=fun l hl hne=>by
   have h1:Zy l (replay L R s0).objs=none:=by
    cases h:Zy l (replay L R s0).objs with
    | none=>rfl
    | some x=>obtain ⟨K,hK,_⟩:=hr.good.at_ l x h;rw [hl] at hK;cases hK
   rw [st.dom l ?_]
   ·exact hl
   ·rw [Zct]
    cases hed:Zy l rc.ed with
    | none=>exact h1
    | some x =>
      rcases hkey l x hed with h | ⟨z,hz⟩
      ·exact absurd h hne
      ·rw [h1] at hz;cases hz
  have hrel:Zcw P cx (rc.app (replay L R s0)) (a.put o.dst u) E':=by
   refine ⟨?_,fun l hl=>?_,?_,Nat.le_trans hr.drawn hdr,?_,?_,fun t=>?_⟩
   ·have:(rc.app (replay L R s0)).objs=rc.ed++(replay L R s0).objs:=by generalize replay L R s0=q;cases q;rfl
    rw [this];exact g
   ·have hl:s0.nx≤l:=by
     have:(rc.app (replay L R s0)).nx=s0.nx:=by
      rw [← e2];generalize replay L R s0=q;cases q;rfl
     rw [this] at hl;exact hl
    exact hnone l (hr.fresh l (by rw [e2];exact hl)) (by omega)
   ·have:(rc.app (replay L R s0)).mv=(replay L R s0).mv:=by generalize replay L R s0=q;cases q;rfl
    rw [this]
    have e:(rc.app (replay L R s0)).objs=rc.ed++(replay L R s0).objs:=by generalize replay L R s0=q;cases q;rfl
    rw [e];simpa using hr.step.trans st
   ·have:(rc.app (replay L R s0)).nt=(replay L R s0).nt:=by generalize replay L R s0=q;cases q;rfl
    rw [this,← hr.size];cases o.dst<;>simp [Act.put]
   ·have:(rc.app (replay L R s0)).df=(replay L R s0).df:=by generalize replay L R s0=q;cases q;rfl
    have e:(a.put o.dst u).defers=a.defers:=by cases o.dst<;>rfl
    rw [this,e];exact hr.df.ext st.ext
   ·rw [Zlf,hdst]
    cases hdd:o.dst with
    | none=>exact (hr.rep t).mono st.ext
    | some d =>
      rw [Zoq (hdlt d hdd)]
      by_cases e:d=t
      ·subst e;rw [if_pos rfl,if_pos rfl];exact hu
      ·rw [if_neg (fun h=>e (by cases h;rfl)),if_neg e];exact (hr.rep t).mono st.ext
  refine hK _ E' ?_ (fun q hq hqf=>?_)
  ·refine Rel.congr hrel (fun t=>?_) (fun l=>?_) ?_ ?_ ?_ (fun l hl=>?_)
   ·
    rw [Zlf,Zdh,Zdh]
    by_cases e:rc.dst=some t
    ·rw [if_pos e]
     have hq:∀ q∈R,q.dst=some t→q=rc:=fun q hq hqd=>huniq q hq (by
      have h1:=(Zcu hd q hq t hqd).1
      have h2:=(Zcu hd rc hmem t e).1
      exact (Option.some.inj (h1.symm.trans h2)).trans hii)
     have hBn:Zee (Zmy L i) t B=none:=ZdQ fun q hqB hqd=>by
      have:=hq q (by rw [hAB];simp [hqB]) hqd
      have h1:=hB q hqB
      rw [this,hii] at h1;omega
     have:Zee (Zmy L i) t R=some rc.v:=by
      rw [hAB,Zhm]
      simp only [Zee,hBn]
      rw [if_pos ⟨by simp [Zmy,hii],e⟩]
     rw [this]
    ·rw [if_neg e]
     rw [ZfE (p:=Zmy L i) (q:=L)]
     intro q hq hqd
     have:q.i≠i:=fun h=>e (by rw [← huniq q hq h];exact hqd)
     simp [Zmy,this]
   ·
    rw [Zop,Zc8,Zc8]
    have other:Zy l rc.ed=none→ZdR (Zmy L i) l R=ZdR L l R:=fun hn=>Zfr fun q hq x hed=>by
     have:q.i≠i:=fun h=>by rw [huniq q hq h,hn] at hed;cases hed
     simp [Zmy,this]
    cases hed:Zy l rc.ed with
    | none=>rw [other hed]
    | some y =>
      simp only
      have hBn:ZdR (Zmy L i) l B=none:=ZjU fun q hqB x hqe=>by
       have hqR:q∈R:=by rw [hAB];simp [hqB]
       have h1:=hB q hqB
       rcases hord q hqR l x hqe (hks l y hed) with h | h
       ·have h2:L q.i=false:=by rw [← h];simp;omega
        simp only [Zmy,h2,Bool.false_or,decide_eq_false_iff_not];omega
       ·rw [h,hii] at h1;omega
      have:ZdR (Zmy L i) l R=some y:=by
       rw [hAB,Zg4]
       simp only [ZdR,hBn,hed]
       rw [if_pos (by simp [Zmy,hii])]
      rw [this]
   ·rw [f1,← e1];generalize replay L R s0=q;cases q;rfl
   ·rw [f3,← e3];generalize replay L R s0=q;cases q;rfl
   ·rw [f4,← e4];generalize replay L R s0=q;cases q;rfl
   ·rw [f2] at hl
    exact hnone l (hr.fresh l (by rw [e2];exact hl)) (by omega)
  ·simp only [Zmy,Bool.or_eq_false_iff,decide_eq_false_iff_not] at hqf
   exact hnone _ (hf q hq hqf.1) (by omega)
 obtain ⟨dst,op,ty,po,af,guard⟩:=o
 revert hrc hobj hval
 generalize hcur:replay (fun k=>decide (k < i)) R s0=cur
 obtain ⟨ntc,tmpsc,objsc,nxc,dfc,wrc,dic,mvc⟩:=cur
 intro hobj hval hrc
 simp only [Zu9] at hrc
 have hsub:∀ ks:List Nat,(∀ l∈ks,l∈rc.ks)→Sub (Znk objsc ks) (replay L R s0).objs:=fun ks hks l x h=>by
  obtain ⟨h1,h2⟩:=ZiQ h
  rw [← hobj l (hks l h1)];exact h2
 have hops:∀ tm:List (Nat×V),tm=ZnE T ds i s0.tmps tmpsc op.operands.toList→∀ x,Rep P E (evV tm x) (a.eval x):=fun tm e x=>by
  cases x with
  | tmp t =>
    show Rep P E (Zbw t tm) _
    rw [e]
    rcases ZhR (T:=T) (ds:=ds) (i:=i) (base:=s0.tmps) (cur:=tmpsc) (t:=t) (l:=op.operands.toList) with h | h
    ·rw [h];exact hval t
    ·rw [h];exact .any _
  | const v=>exact Ze1 v
  | global g=>exact .any _
  | func f=>exact .fn rfl rfl (fun j hj=>by simp at hj) (fun j hj=>by simp at hj)
 have hfi:E.loc (n0+i)=none:=by have:=hf rc hmem (by rw [hii];exact hL);rwa [hii] at this
 unfold wpOpIn
 rw [hi]
 simp only
 split at hrc
 ·rw [if_pos (by simp [Region.wanted])]
  split at hrc
  ·rename_i ob' v es he
   have hrc1:ob'=ob:=by cases hrc;rfl
   have hrc2:=(Prod.mk.inj (Option.some.inj hrc)).2
   subst hrc1
   have hks:∀ l∈Zu3 op objsc (ksL (ZbN (ZnE T ds i s0.tmps tmpsc op.operands.toList) op.operands.toList)),l∈rc.ks:=fun l hl=>by rw [← hrc2];simp [hl]
   have hrv:rc.v=v:=by rw [← hrc2]
   have hre:rc.ed=es:=by rw [← hrc2]
   obtain ⟨hdid,hkeys⟩:=ZoW (r:=r) (a:=a) (o:=⟨dst,op,ty,po,af,none⟩) hτ hκ he (hsub _ hks) ho hr.good hfi (fun x _=>hops _ rfl x)
   refine hdid _ Q (fun E' u k1 k2 kd k3=>?_)
   refine behind E' u (by rw [hre];exact k1) (by rw [hre];exact k2) kd (by rw [hrv];exact k3) (fun l x h=>?_) (fun l x h=>?_)
   ·rw [hre] at h
    rcases hkeys l x h with h | ⟨y,hy⟩
    ·exact .inl h
    ·exact .inr ⟨y,hsub _ hks l y hy⟩
   ·rw [hre] at h
    rw [← hrc2]
    exact List.mem_append_left _ (Zeg h)
  ·cases hrc
 ·rename_i j want
  split at hrc
  ·cases hrc
  ·rename_i gd hgd
   split at hrc
   ·cases hrc
   ·rename_i g hg
    have hw:=ZmH (o:=⟨dst,op,ty,po,af,some (j,want)⟩) rfl hgd hg (hval gd)
    rw [hw]
    have hdec : Zu8 τ κ dec g i dst op (ZnE T ds i s0.tmps tmpsc op.operands.toList) (Znk objsc (Zu3 op objsc (ksL (ZbN (ZnE T ds i s0.tmps tmpsc op.operands.toList) op.operands.toList)))) (Zu3 op objsc (ksL (ZbN (ZnE T ds i s0.tmps tmpsc op.operands.toList) op.operands.toList))) (n0 + i) = some (ob, rc) →
     if g=true then Oper.wpIn (fz r) 0 P ⟨dst,op,ty,po,af,some (j,want)⟩ a E.w K Q else (∀ (f:FuncId),Oper.about P E.w a.eval ⟨dst,op,ty,po,af,some (j,want)⟩=some f→(fz r).fn f)∧K (a.put dst undef) E.w:=fun hrc=>by
     unfold Zu8 at hrc
     split at hrc
     ·cases hrc
     ·split at hrc
      ·rw [if_pos rfl]
       split at hrc
       ·rename_i ob' v es he
        have hrc1:ZgM true (Zhl op (ZnE T ds i s0.tmps tmpsc op.operands.toList)) ob'=ob:=by cases hrc;rfl
        have hrc2:=(Prod.mk.inj (Option.some.inj hrc)).2
        have hks:∀ l∈Zu3 op objsc (ksL (ZbN (ZnE T ds i s0.tmps tmpsc op.operands.toList) op.operands.toList)),l∈rc.ks:=fun l hl=>by rw [← hrc2];simp [hl]
        have hrv:rc.v=v:=by rw [← hrc2]
        have hre:rc.ed=es:=by rw [← hrc2]
        have hob:=(Zc6 (by rw [hrc1];exact ho) rfl).1
        have kc:=(Zc6 (by rw [hrc1];exact ho) rfl).2
        obtain ⟨hdid,hkeys⟩:=ZoW (r:=r) (a:=a) (o:=⟨dst,op,ty,po,af,some (j,want)⟩) hτ hκ he (hsub _ hks) hob hr.good hfi (fun x hx=>Zip hx (hops _ rfl x) kc)
        refine hdid _ Q (fun E' u k1 k2 kd k3=>?_)
        refine behind E' u (by rw [hre];exact k1) (by rw [hre];exact k2) kd (by rw [hrv];exact k3) (fun l x h=>?_) (fun l x h=>?_)
        ·rw [hre] at h
         rcases hkeys l x h with h | ⟨y,hy⟩
         ·exact .inl h
         ·exact .inr ⟨y,hsub _ hks l y hy⟩
        ·rw [hre] at h
         rw [← hrc2]
         exact List.mem_append_left _ (Zeg h)
       ·cases hrc
      ·rw [if_neg (by simp)]
       have hrc2:=(Prod.mk.inj (Option.some.inj hrc)).2
       have hrv:rc.v=.when false (.d .bool false):=by rw [← hrc2]
       have hre:rc.ed=[]:=by rw [← hrc2]
       exact ⟨fun _ _=>trivial,behind E undef (by rw [hre];exact hr.good) (by rw [hre];exact .refl _ _ _) (Nat.le_refl _) (by rw [hrv];exact .when (fun e=>by cases e) (fun _=>rfl)) (fun l x h=>by rw [hre] at h;cases h) (fun l x h=>by rw [hre] at h;cases h)⟩
    split at hrc
    ·rename_i out he
     generalize hdat:Zsk op out=out' at hrc
     obtain ⟨ob',v,ed⟩:=out'
     simp only at hrc
     split at hrc
     ·rename_i es hed
      have hrc1:ZgM g (Zhl op (ZnE T ds i s0.tmps tmpsc op.operands.toList)) ob'=ob:=by cases hrc;rfl
      have hrc2:=(Prod.mk.inj (Option.some.inj hrc)).2
      have hks:∀ l∈Zu3 op objsc (ksL (ZbN (ZnE T ds i s0.tmps tmpsc op.operands.toList) op.operands.toList)),l∈rc.ks:=fun l hl=>by rw [← hrc2];simp [hl]
      have hrv:rc.v=.when g v:=by rw [← hrc2]
      have hre:rc.ed=es:=by rw [← hrc2]
      have hcase:(ed=none∧es=[])∨(ed=some (n0+i,.dead,false)∧es=[(n0+i,.dead)]):=by
       unfold edG at hed
       split at hed
       ·cases hed;exact .inl ⟨rfl,rfl⟩
       ·split at hed
        ·rename_i l hb
         cases hed
         rw [Nat.eq_of_beq_eq_true hb]
         exact .inr ⟨rfl,rfl⟩
        ·cases hed
       ·cases hed
      have hkey:∀ l x,Zy l rc.ed=some x→l=n0+i∨∃ y,Zy l (replay L R s0).objs=some y:=fun l x h=>by
       rw [hre] at h
       rcases hcase with ⟨_,rfl⟩ | ⟨_,rfl⟩
       ·cases h
       ·rw [Zo] at h
        split at h
        ·rename_i e;exact .inl e.symm
        ·cases h
      have hksr:∀ l x,Zy l rc.ed=some x→l∈rc.ks:=fun l x h=>by
       rw [hre] at h
       rw [← hrc2]
       exact List.mem_append_left _ (Zeg h)
      cases g with
      | true =>
        rw [if_pos rfl]
        have hob:okP (Zsk op out).ob:=by
         rw [hdat]
         exact (Zc6 (by rw [hrc1];exact ho) rfl).1
        have kc:=(Zc6 (by rw [hrc1];exact ho) rfl).2
        have hd0:=ZhF (r:=r) (a:=a) (o:=⟨dst,op,ty,po,af,some (j,want)⟩) hτ hκ he (hsub _ hks) (by rw [← Zrc op out];exact hob) hr.good hfi (fun x hx=>Zip hx (hops _ rfl x) kc)
        have hd1:=ZoJ op hd0
        rw [hdat] at hd1
        refine hd1 _ Q (fun E' u k1 k2 kd k3=>?_)
        refine behind E' u ?_ ?_ kd (by rw [hrv];exact .when (fun _=>k3) (fun e=>by cases e)) hkey hksr
        ·rw [hre]
         rcases hcase with ⟨rfl,rfl⟩ | ⟨rfl,rfl⟩
         ·exact k1
         ·exact k1
        ·rw [hre]
         rcases hcase with ⟨rfl,rfl⟩ | ⟨rfl,rfl⟩
         ·exact k2
         ·exact k2
      | false =>
        rw [if_neg (by simp)]
        refine ⟨fun _ _=>trivial,?_⟩
        rcases hcase with ⟨rfl,rfl⟩ | ⟨rfl,rfl⟩
        ·exact behind E undef (by rw [hre];exact hr.good) (by rw [hre];exact .refl _ _ _) (Nat.le_refl _) (by rw [hrv];exact .when (fun e=>by cases e) (fun _=>rfl)) hkey hksr
        ·have ha:=hr.good.adopt (n:=n0+i) (K:=⟨0,none,0,0,0⟩) (o:=.dead) hfi trivial (fun h=>h.elim)
         exact behind (E.setL E.w (n0+i) ⟨0,none,0,0,0⟩) undef (by rw [hre];exact ha.1) (by rw [hre];exact ha.2 E _ [] (.refl _ _ _) (fun h=>h.elim)) (Nat.le_refl _) (by rw [hrv];exact .when (fun e=>by cases e) (fun _=>rfl)) hkey hksr
     ·exact hdec hrc
    ·exact hdec hrc
end Go.Proofs.YtgpdnmfpgkkgcaaGreatDoor
namespace Go.Proofs.YtgpdnmfpgkkgcaaGreatDoor
open Go
set_option linter.unusedVariables false
variable {P:Program} {τ:ZaA} {κ:Zaf} {φ:Nat→Option FX}
def Zsy:Nat→List Nat→Bool
 | 0,_=>true
 | n+1,l=>match ZdT n l with
   | true=>Zsy n l
   | false=>false
theorem Zmr {l:List Nat}:∀ {n:Nat},Zsy n l=true→∀ j,j < n→j∈l
 | 0,_,j,h=>absurd h (by omega)
 | n+1,h,j,hj=>by
   simp only [Zsy] at h
   split at h
   ·rename_i h1
    by_cases e:j=n
    ·subst e;exact Zby.1 h1
    ·exact Zmr h j (by omega)
   ·cases h
def Zlk (T:List (Nat×List Nat)) (p:Nat):Nat→Nat→Bool
 | _,0=>true
 | i,c+1=>match Zsy p (ZeQ i T) with
   | true=>Zlk T p (i+1) c
   | false=>false
theorem Zjc {T:List (Nat×List Nat)} {p:Nat}:∀ {c i:Nat},Zlk T p i c=true→∀ j,i≤j→j < i+c→∀ k,k < p→k∈ZeQ j T
 | 0,i,_,j,h1,h2,_,_=>absurd h2 (by omega)
 | c+1,i,h,j,h1,h2,k,hk=>by
   simp only [Zlk] at h
   split at h
   ·rename_i hb
    by_cases e:j=i
    ·subst e;exact Zmr hb k hk
    ·exact Zjc h j (by omega) (by omega) k hk
   ·cases h
def Zv2:Nat→List Oper→List (Nat×Nat)
 | _,[]=>[]
 | i,⟨some d,_,_,_,_,_⟩::r=>(d,i)::Zv2 (i+1) r
 | i,_::r=>Zv2 (i+1) r
def Zkf {α:Type}:Nat→List α→List α×List α
 | 0,l=>([],l)
 | n+1,[]=>([],[])
 | n+1,x::l=>match Zkf n l with
   | (a,b)=>(x::a,b)
def ZlK (τ:ZaA) (κ:Zaf) (dec:Bool) (T:List (Nat×List Nat)) (ops:List Oper) (n p:Nat) (seg:List Oper) (s:St) (k:St→Prop):Prop:=match s with
 | ⟨nt,tmps,objs,nx,df,wr,di,mv⟩=>match Zj9 τ κ dec T (Zv2 p seg) ops nx tmps p seg ⟨nt,tmps,objs,nx+n,df,wr,di,mv⟩ with
   | none=>False
   | some (obs,R,s')=>match Zql T R with
     | false=>False
     | true=>match ZiU nt (Zv2 p seg) R with
       | false=>False
       | true=>Zwv obs (k s')
def ZtC (ops:List Oper):List Oper→Option Nat
 | []=>none
 | ⟨_,_,_,_,_,some (j,_)⟩::_=>ZvC ops j
 | _::r=>ZtC ops r
def Zwe (t:Nat) (b:Bool) (s:St):St:=match s with
 | ⟨nt,tmps,objs,nx,df,wr,di,mv⟩=>⟨nt,(t,.d .bool b)::tmps,objs,nx,df,t::wr,di,mv⟩
def Zqi (τ:ZaA) (κ:Zaf) (T:List (Nat×List Nat)) (ops:List Oper) (n p:Nat) (seg:List Oper) (s:St) (k:St→Prop):Prop:=match s with
 | ⟨nt,tmps,objs,nx,df,wr,di,mv⟩=>match Zj9 τ κ false T (Zv2 p seg) ops nx tmps p seg ⟨nt,tmps,objs,nx+n,df,wr,di,mv⟩ with
   | some _=>ZlK τ κ false T ops n p seg ⟨nt,tmps,objs,nx,df,wr,di,mv⟩ k
   | none=>match ZtC ops seg with
     | none=>False
     | some t=>match Zbw t tmps with
       | .d .bool b=>cond b (ZlK τ κ true T ops n p seg (Zwe t true ⟨nt,tmps,objs,nx,df,wr,di,mv⟩) k) (ZlK τ κ true T ops n p seg (Zwe t false ⟨nt,tmps,objs,nx,df,wr,di,mv⟩) k)
       | _=>False
theorem ZuO {cx:Cx} {s:St} {t:Nat} {b:Bool} (hv:Zbw t s.tmps=.d .bool b) {a:Act} {w:World} (r:Rel P cx s a w):Inv s (Zwe t b s)∧Rel P cx (Zwe t b s) a w:=by
 obtain ⟨nt,tmps,objs,nx,df,wr,di,mv⟩:=s
 obtain ⟨E,rfl,r1⟩:=r
 have hl:∀ u,Zbw u ((t,V.d .bool b)::tmps)=Zbw u tmps:=fun u=>by
  rw [Zas]
  split
  ·rename_i e;rw [← e];exact hv.symm
  ·rfl
 refine ⟨⟨rfl,Nat.le_refl _,fun _ h=>List.mem_cons_of_mem _ h,fun _ h=>h,fun _ h=>h,fun u hu=>hl u,fun _ _=>rfl,fun _=>rfl⟩,E,rfl,r1.good,r1.fresh,r1.step,r1.drawn,r1.size,r1.df,fun u=>?_⟩
 show Rep P E (Zbw u ((t,V.d .bool b)::tmps)) _
 rw [hl];exact r1.rep u
theorem ZpP {cx : Cx} {T : List (Nat × List Nat)} {ops : List Oper} {n p : Nat} {seg : List Oper} {s : St} {k : St → Prop} (h : Zqi τ κ T ops n p seg s k) {a : Act} {w : World} (r : Rel P cx s a w) :
 ∃ dec s1,Inv s s1∧Rel P cx s1 a w∧ZlK τ κ dec T ops n p seg s1 k:=by
 obtain ⟨nt,tmps,objs,nx,df,wr,di,mv⟩:=s
 unfold Zqi at h
 simp only at h
 split at h
 ·exact ⟨false,_,.refl _,r,h⟩
 ·split at h
  ·exact h.elim
  ·rename_i t _
   split at h
   ·rename_i b hv
    obtain ⟨h1,h2⟩:=ZuO (P:=P) (cx:=cx) (s:=⟨nt,tmps,objs,nx,df,wr,di,mv⟩) hv r
    cases b with
    | true=>exact ⟨true,_,h1,h2,h⟩
    | false=>exact ⟨true,_,h1,h2,h⟩
   ·exact h.elim
def ZpE (τ:ZaA) (κ:Zaf) (X:XT) (T:List (Nat×List Nat)) (ops:List Oper) (n:Nat):List Nat→Nat→List Oper→St→(St→Prop)→Prop
 | [],p,rest,s,k=>match rest with
   | []=>k s
   | _=>False
 | q::qs,p,rest,s,k=>match Zlk T q q (n - q) with
   | false=>False
   | true=>match Nat.beq q (p+1) with
     | true=>match rest with
       | []=>False
       | o::r=>ZlG τ κ X ops [o] [] s (fun s'=>ZpE τ κ X T ops n qs q r s' k)
     | false=>match Zkf (q - p) rest with
       | (seg,r)=>match Nat.beq (p+seg.length) q with
         | false=>False
         | true=>Zqi τ κ T ops n p seg s (fun s'=>ZpE τ κ X T ops n qs q r s' k)
theorem Zi5 {α:Type}:∀ {n:Nat} {l:List α},(Zkf n l).1=l.take n∧(Zkf n l).2=l.drop n
 | 0,l=>⟨rfl,rfl⟩
 | n+1,[]=>⟨rfl,rfl⟩
 | n+1,x::l=>by
   have:=Zi5 (n:=n) (l:=l)
   simp only [Zkf,List.take_succ_cons,List.drop_succ_cons]
   exact ⟨by rw [this.1],this.2⟩
theorem Inv.app (r:Rc) (s:St):Inv s (r.app s):=by
 obtain ⟨i,dst,v,ed,ks⟩:=r
 obtain ⟨nt,tmps,objs,nx,df,wr,di,mv⟩:=s
 refine ⟨rfl,Nat.le_refl _,fun t ht=>?_,fun l hl=>?_,fun _ h=>h,fun t ht=>?_,fun l hl=>?_,fun _=>rfl⟩
 ·cases dst with
  | none=>exact ht
  | some d=>exact List.mem_cons_of_mem _ ht
 ·exact List.mem_append_right _ hl
 ·cases dst with
  | none=>rfl
  | some d =>
    have ht:t∉d::wr:=ht
    simp only [List.mem_cons,not_or] at ht
    show Zbw t ((d,v)::tmps)=_
    rw [Zas,if_neg (Ne.symm ht.1)]
 ·have hl:l∉ZlJ ed++di:=hl
  simp only [List.mem_append,not_or] at hl
  show Zy l (ed++objs)=_
  rw [Zct]
  cases h:Zy l ed with
  | none=>rfl
  | some o=>exact absurd (Zeg h) hl.1
theorem Inv.replay (p:Nat→Bool):∀ (R:List Rc) (s:St),Inv s (replay p R s)
 | [],s=>.refl s
 | r::rs,s=>by
   simp only [YtgpdnmfpgkkgcaaGreatDoor.replay]
   split
   ·exact (Inv.app r s).trans (Inv.replay p rs _)
   ·exact Inv.replay p rs s
def Bd (n p:Nat) (listed:Array Bool):Prop:=listed.size=n∧∀ j,j < n→listed.getD j false=decide (j < p)
def cnt (n:Nat) (listed:Array Bool):Nat:=((List.range n).filter fun j=>!listed.getD j false).length
theorem ZuA {p p':Nat→Bool} {i:Nat} (hi:p i=true) (hi':p' i=false) (hp:∀ j,p' j=true→p j=true):∀ {l:List Nat},i∈l→(l.filter p').length < (l.filter p).length:=by
 have hle:∀ l:List Nat,(l.filter p').length≤(l.filter p).length:=by
  intro l
  induction l with
  | nil=>simp
  | cons x l ih =>
    simp only [List.filter_cons]
    split
    ·rename_i h;rw [if_pos (hp x h)];simpa using ih
    ·split
     ·simp;omega
     ·exact ih
 intro l h
 induction l with
 | nil=>cases h
 | cons x l ih =>
   simp only [List.filter_cons]
   rcases List.mem_cons.1 h with rfl | h
   ·rw [if_pos hi,if_neg (by rw [hi'];simp)]
    have:=hle l
    simp;omega
   ·have:=ih h
    split
    ·rename_i h';rw [if_pos (hp x h')];simpa using this
    ·split
     ·simp;omega
     ·exact this
theorem Zd7 {listed:Array Bool} {i j:Nat} (hi:i < listed.size):(listed.setIfInBounds i true).getD j false=(listed.getD j false||decide (j=i)):=by
 by_cases e:j=i
 ·subst e
  simp [Array.getD_eq_getD_getElem?,hi]
 ·rw [getD_set_ne false (Ne.symm e)];simp [e]
theorem ZrA {n i:Nat} {listed:Array Bool} (hs:listed.size=n) (hi:i < n) (hl:listed.getD i false=false):cnt n (listed.setIfInBounds i true) < cnt n listed:=by
 refine ZuA (i:=i) (by simp only [hl];rfl) (by rw [Zd7 (by omega)];simp) (fun j hj=>?_) (List.mem_range.2 hi)
 rw [Zd7 (by omega)] at hj
 cases h:listed.getD j false with
 | false=>rfl
 | true=>rw [h] at hj;cases hj
def ZvE (T:List (Nat×List Nat)) (n:Nat) (listed:Array Bool):Prop:=∀ i,i < n→listed.getD i false=true→∀ j∈ZeQ i T,listed.getD j false=true
theorem ZgJ {ops:Array Oper} {T:List (Nat×List Nat)} (hT:PT ops T) {listed:Array Bool} (hd:ZvE T ops.size listed) {i:Nat} (hi:i∈Region.ready .any ops listed):i < ops.size∧listed.getD i true=false∧∀ j∈ZeQ i T,listed.getD j false=true:=by
 obtain ⟨h1,o,h2,h3⟩:=mem_ready.1 hi
 have hlt:i < ops.size:=(Array.getElem?_eq_some_iff.1 h2).1
 refine ⟨hlt,h1,fun j hj=>?_⟩
 obtain ⟨e,he,hb,hor⟩:=hT.back i o j h2 hj
 have hon:=h3 e he hb
 rcases hor with h | h
 ·rw [← h];exact hon
 ·exact hd e.on (Nat.lt_trans (hT.lt i e.on hlt (hT.edge i o e h2 he hb)) hlt) hon j h
theorem ZfU {listed:Array Bool} {n j:Nat} (hs:listed.size=n) (hj:j < n):listed.getD j true=listed.getD j false:=by
 rw [Array.getD_eq_getD_getElem?,Array.getD_eq_getD_getElem?,Array.getElem?_eq_getElem (by omega)];rfl
theorem ZoH {ops:Array Oper} {T:List (Nat×List Nat)} (hT:PT ops T) {listed:Array Bool} (hs:listed.size=ops.size):∀ i,i < ops.size→listed.getD i false=false→Region.ready .any ops listed≠[]:=by
 intro i
 induction i using Nat.strongRecOn with
 | _ i ih =>
   intro hi hl hn
   have:i∈Region.ready .any ops listed:=mem_ready.2 ⟨by rw [ZfU hs hi];exact hl,ops[i],Array.getElem?_eq_getElem hi,fun e he hb=>by
    have hlt:=hT.lt i e.on hi (hT.edge i ops[i] e (Array.getElem?_eq_getElem hi) he hb)
    cases h:listed.getD e.on false with
    | true=>rfl
    | false=>exact absurd hn (ih e.on hlt (by omega) h)⟩
   rw [hn] at this
   cases this
theorem ZrX {ops:Array Oper} {T:List (Nat×List Nat)} (hT:PT ops T) {p:Nat} {listed:Array Bool} (h:Bd ops.size p listed):ZvE T ops.size listed:=fun i hi hl j hj=>by
 have h1:=h.2 i hi
 rw [hl] at h1
 have h2:=hT.lt i j hi hj
 have h3:i < p:=by simpa using h1.symm
 rw [h.2 j (by omega)]
 simp;omega
theorem ZsJ {ops:Array Oper} {T:List (Nat×List Nat)} (hT:PT ops T) {listed:Array Bool} (hs:listed.size=ops.size) (hd:ZvE T ops.size listed) {i:Nat} (hi:i∈Region.ready .any ops listed):ZvE T ops.size (listed.setIfInBounds i true):=fun j hj hl k hk=>by
 obtain ⟨h1,h2,h3⟩:=ZgJ hT hd hi
 rw [Zd7 (by omega)] at hl ⊢
 rcases Bool.or_eq_true_iff.1 hl with h | h
 ·rw [hd j hj h k hk];rfl
 ·have:j=i:=by simpa using h
  subst this
  rw [h3 k hk];rfl
end Go.Proofs.YtgpdnmfpgkkgcaaGreatDoor
namespace Go.Proofs.YtgpdnmfpgkkgcaaGreatDoor
open Go
set_option linter.unusedVariables false
variable {P:Program} {τ:ZaA} {κ:Zaf} {φ:Nat→Option FX}
theorem ZvA {F:Fence} {n:Nat} {o:Oper} {a:Act} {w:World} {K:Act→World→Prop} {Q Q':Zjj} (h:∀ c a w,Q' (.panic c) a w→Q (.panic c) a w) (h2:LetsOut Q'→LetsOut Q) (hh:o.wpIn F n P a w K Q'):o.wpIn F n P a w K Q:=by
 unfold Oper.wpIn at *
 refine ⟨hh.1,?_⟩
 have hh:=hh.2
 generalize (o.semAt F.round a.eval).run P w=r at *
 cases r with
 | ok x w' =>
   cases x<;>simp only [Oper.uponIn] at hh ⊢ <;>
    first
     | exact hh
     | exact ⟨hh.1,CallsIn.mono hh.2 (fun e w'' he=>by cases e<;>first | exact h _ _ _ he | exact h2 he | exact he)⟩
     | exact ⟨hh.1,RowsIn.mono hh.2 (fun _ _ he=>he)⟩
     | exact ⟨hh.1,RoundIn.mono hh.2 (fun e w'' he=>by cases e<;>first | exact h _ _ _ he | exact h2 he | exact he)⟩
 | halt x w'=>cases x<;>simp only [Oper.uponIn] at hh ⊢<;>first | exact hh | exact h _ _ _ hh
theorem Zs8 {F:Fence} {n:Nat} {ops:Array Oper} {i:Nat} {a:Act} {w:World} {K:Act→World→Prop} {Q Q':Zjj} (h:∀ c a w,Q' (.panic c) a w→Q (.panic c) a w) (h2:LetsOut Q'→LetsOut Q) (hh:wpOpIn F n P ops Q' i K a w):wpOpIn F n P ops Q i K a w:=by
 unfold wpOpIn at *
 split
 ·rename_i ho;rw [ho] at hh;exact hh
 ·rename_i o ho
  rw [ho] at hh
  simp only at hh
  split
  ·rename_i hw;rw [if_pos hw] at hh;exact ZvA h h2 hh
  ·rename_i hw;rw [if_neg hw] at hh;exact hh
theorem Zkq (hτ : Zbl P τ) (hκ : Zay P κ) {r : Option Nat} {cx : Cx} {X : XT} (hX : XOk P r cx X) {ops : Array Oper} {T : List (Nat × List Nat)} (hT : PT ops T) {Q : Zjj} :
 ∀ (qs:List Nat) (p:Nat) (rest:List Oper) (s:St) (k:St→Prop),rest=ops.toList.drop p→p≤ops.size→(∀ i,p≤i→i < ops.size→∀ j,j < p→j∈ZeQ i T)→ZpE τ κ X T ops.toList ops.size qs p rest s k →
  ∀ (fuel:Nat) (listed:Array Bool) (a:Act) (w:World),Bd ops.size p listed→cnt ops.size listed≤fuel→Rel P cx s a w→(∀ s' a' w',Inv s s'→k s'→Rel P cx s' a' w'→Q .normal a' w')→wpAnyIn (fz r) 0 P .any ops Q fuel listed a w
 | [],p,rest,s,k,hrest,hps,hbd,h,fuel,listed,a,w,hB,hc,hr,hk=>by
   simp only [ZpE] at h
   split at h
   ·have hp:p=ops.size:=by
     have:(ops.toList.drop p).length=0:=by rw [← hrest];rfl
     simp at this;omega
    have hrd:Region.ready .any ops listed=[]:=by
     refine List.eq_nil_iff_forall_not_mem.2 fun i hi=>?_
     obtain ⟨h1,o,h2,_⟩:=mem_ready.1 hi
     have hlt:i < ops.size:=(Array.getElem?_eq_some_iff.1 h2).1
     rw [ZfU hB.1 hlt,hB.2 i hlt,hp] at h1
     simp at h1;omega
    have hq:=hk s a w (.refl s) h hr
    cases fuel with
    | zero=>exact ⟨hrd,hq⟩
    | succ f=>exact ⟨fun _=>hq,fun i hi=>by rw [hrd] at hi;cases hi⟩
   ·exact h.elim
 | q::qs,p,rest,s,k,hrest,hps,hbd,h,fuel,listed,a,w,hB,hc,hr,hk=>by
   simp only [ZpE] at h
   split at h
   ·exact h.elim
   ·rename_i hall
    have hbq:q≤ops.size→∀ i,q≤i→i < ops.size→∀ j,j < q→j∈ZeQ i T:=fun hq i h1 h2 j hj=>Zjc hall i h1 (by omega) j hj
    split at h
    ·
     rename_i hqp
     have hqp:=Nat.eq_of_beq_eq_true hqp
     split at h
     ·exact h.elim
     ·rename_i o rst
      have hop:ops[p]?=some o:=by
       have:ops.toList[p]?=some o:=by
        have:=List.getElem?_drop (xs:=ops.toList) (i:=p) (j:=0)
        rw [← hrest] at this
        simpa using this.symm
       simpa using this
      have hlt:p < ops.size:=(Array.getElem?_eq_some_iff.1 hop).1
      have hrst:rst=ops.toList.drop q:=by
       have:=congrArg (List.drop 1) hrest
       rw [hqp];simpa [List.drop_drop] using this
      have hun:listed.getD p false=false:=by rw [hB.2 p hlt];simp
      have hB':Bd ops.size q (listed.setIfInBounds p true):=⟨by simpa using hB.1,fun j hj=>by
       rw [Zd7 (by rw [hB.1];exact hlt),hB.2 j hj,hqp]
       by_cases e:j=p
       ·subst e;simp
       ·have:(j < p+1)=(j < p):=by apply propext;omega
        simp [e,this]⟩
      have hcs:=ZrA hB.1 hlt hun
      cases fuel with
      | zero=>omega
      | succ f =>
        refine ⟨fun hn=>absurd hn (ZoH hT hB.1 p hlt hun),fun i hi=>?_⟩
        obtain ⟨h1,h2,h3⟩:=ZgJ hT (ZrX hT hB) hi
        have hip:i=p:=by
         rw [ZfU hB.1 h1,hB.2 i h1] at h2
         have h2:p≤i:=by simpa using h2
         by_cases e:i=p
         ·exact e
         ·have:=h3 p (hbq (by omega) i (by omega) h1 p (by omega))
          rw [hun] at this;cases this
        subst hip
        have:=Znx (Q:=fun e a w=>match e with | .normal=>wpAnyIn (fz r) 0 P .any ops Q f (listed.setIfInBounds i true) a w | e=>Q e a w) hτ hκ hX (ops:=ops) (l:=[o]) (is:=[i]) (by simp [hop]) h hr
         (fun s' a' w' hi' hq' hr'=>Zkq hτ hκ hX hT qs q rst s' k hrst (by omega) (hbq (by omega)) hq' f _ a' w' hB' (by omega) hr' (fun s'' a'' w'' hj hq'' hr''=>hk s'' a'' w'' (hi'.trans hj) hq'' hr''))
        rw [wpOpsIn_cons] at this
        exact Zs8 (fun c a w h=>h) (fun ⟨a,w,h⟩=>⟨a,w,h⟩) this
    ·
     generalize hsp:Zkf (q - p) rest=sr at h
     obtain ⟨seg,rst⟩:=sr
     simp only at h
     have hseg:seg=rest.take (q - p):=by rw [← (Zi5 (n:=q - p) (l:=rest)).1,hsp]
     have hrst:rst=rest.drop (q - p):=by rw [← (Zi5 (n:=q - p) (l:=rest)).2,hsp]
     split at h
     ·exact h.elim
     ·rename_i hlen
      have hlen:=Nat.eq_of_beq_eq_true hlen
      obtain ⟨dec,s1,hi1,hr,h⟩:=ZpP h hr
      replace hk:∀ s' a' w',Inv s1 s'→k s'→Rel P cx s' a' w'→Q .normal a' w':=fun s' a' w' hi=>hk s' a' w' (hi1.trans hi)
      obtain ⟨nt,tmps,objs,nx,df,wr,di,mv⟩:=s1
      unfold ZlK at h
      simp only at h
      split at h
      ·exact h.elim
      ·rename_i obs R s' hg
       split at h
       ·exact h.elim
       ·rename_i hpairs
        split at h
        ·exact h.elim
        ·rename_i hds
         obtain ⟨hobs,hrec⟩:=ZnU h
         obtain ⟨k0,k1,k2,k3⟩:=ZjY (R0:=[]) (s0:=⟨nt,tmps,objs,nx+ops.size,df,wr,di,mv⟩) hg (fun _ h=>by simp at h) rfl
         simp only [List.nil_append] at k2 k3
         have hqs:q≤ops.size:=by
          have:seg.length≤rest.length:=by rw [hseg,List.length_take];exact Nat.min_le_right _ _
          have h2:rest.length=ops.size - p:=by rw [hrest,List.length_drop,Array.length_toList]
          omega
         have hsget:∀ j o,seg[j]?=some o→ops[p+j]?=some o:=fun j o hj=>by
          rw [hseg,List.getElem?_take] at hj
          split at hj
          ·rw [hrest,List.getElem?_drop] at hj;simpa using hj
          ·cases hj
         have hrst':rst=ops.toList.drop q:=by
          rw [hrst,hrest,List.drop_drop]
          congr 1
          omega
         have hRlt:∀ r∈R,r.i < ops.size:=fun r hr=>by have:=k1 r hr;omega
         have hinv0:Inv ⟨nt,tmps,objs,nx,df,wr,di,mv⟩ ⟨nt,tmps,objs,nx+ops.size,df,wr,di,mv⟩:=⟨rfl,by simp,fun _ h=>h,fun _ h=>h,fun _ h=>h,fun _ _=>rfl,fun _ _=>rfl,fun _=>rfl⟩
         have key : ∀ (fuel : Nat) (listed : Array Bool) (a : Act) (E : Env), listed.size = ops.size → ZvE T ops.size listed → (∀ j, j < p → listed.getD j false = true) → (∀ j, j < ops.size → q ≤ j → listed.getD j false = false) → cnt ops.size listed ≤ fuel →
          Zcw P cx (replay (fun j=>listed.getD j false) R ⟨nt,tmps,objs,nx+ops.size,df,wr,di,mv⟩) a E→(∀ r∈R,listed.getD r.i false=false→E.loc (nx+r.i)=none)→wpAnyIn (fz r) 0 P .any ops Q fuel listed a E.w:=by
          intro fuel
          induction fuel with
          | zero =>
            intro listed a E hs hd hlo hhi hc hr hf
            have hall':∀ j,j < ops.size→listed.getD j false=true:=fun j hj=>by
             cases hl:listed.getD j false with
             | true=>rfl
             | false =>
               have hm:j∈(List.range ops.size).filter fun j=>!listed.getD j false:=List.mem_filter.2 ⟨List.mem_range.2 hj,by simp only [hl];rfl⟩
               rw [List.eq_nil_of_length_eq_zero (Nat.le_zero.1 hc)] at hm
               cases hm
            have hBq:Bd ops.size q listed:=⟨hs,fun j hj=>by
             rw [hall' j hj]
             by_cases e:j < q
             ·simp [e]
             ·have:=hhi j hj (by omega);rw [hall' j hj] at this;cases this⟩
            refine Zkq hτ hκ hX hT qs q rst s' k hrst' hqs (hbq hqs) hrec 0 listed a E.w hBq hc ?_ (fun s'' a'' w'' hj hq'' hr''=>hk s'' a'' w'' ((hinv0.trans (by rw [k2];exact Inv.replay _ _ _)).trans hj) hq'' hr'')
            refine ⟨E,rfl,?_⟩
            rw [k2,ZcF (p:=fun _=>true) (q:=fun j=>listed.getD j false)]
            ·exact hr
            ·intro r hr;exact (hall' r.i (hRlt r hr)).symm
          | succ f ih =>
            intro listed a E hs hd hlo hhi hc hr hf
            by_cases hfull:∀ j,p≤j→j < q→listed.getD j false=true
            ·have hBq:Bd ops.size q listed:=⟨hs,fun j hj=>by
              by_cases e:j < q
              ·by_cases e2:j < p
               ·rw [hlo j e2];simp [e]
               ·rw [hfull j (by omega) e];simp [e]
              ·rw [hhi j hj (by omega)];simp [e]⟩
             refine Zkq hτ hκ hX hT qs q rst s' k hrst' hqs (hbq hqs) hrec (f+1) listed a E.w hBq hc ?_ (fun s'' a'' w'' hj hq'' hr''=>hk s'' a'' w'' ((hinv0.trans (by rw [k2];exact Inv.replay _ _ _)).trans hj) hq'' hr'')
             refine ⟨E,rfl,?_⟩
             rw [k2,ZcF (p:=fun _=>true) (q:=fun j=>listed.getD j false)]
             ·exact hr
             ·intro r hr
              have:=k1 r hr
              exact (hfull r.i this.1 (by omega)).symm
            ·have:∃ j,p≤j∧j < q∧listed.getD j false=false:=by
              refine Classical.byContradiction fun hn=>hfull fun j h1 h2=>?_
              cases hl:listed.getD j false with
              | true=>rfl
              | false=>exact absurd ⟨j,h1,h2,hl⟩ hn
             obtain ⟨j,hj1,hj2,hj3⟩:=this
             refine ⟨fun hn=>absurd hn (ZoH hT hs j (by omega) hj3),fun i hi=>?_⟩
             obtain ⟨h1,h2,h3⟩:=ZgJ hT hd hi
             rw [ZfU hs h1] at h2
             have hip:p≤i:=by
              refine Nat.le_of_not_lt fun hlt=>?_
              rw [hlo i hlt] at h2;cases h2
             have hiq:i < q:=by
              refine Nat.lt_of_not_le fun hle=>?_
              have:=h3 j (hbq hqs i hle h1 j hj2)
              rw [hj3] at this;cases this
             obtain ⟨o,ho⟩:∃ o,seg[i - p]?=some o:=⟨seg[i - p],List.getElem?_eq_getElem (by omega)⟩
             have hio:=hsget _ _ ho
             rw [show p+(i - p)=i from by omega] at hio
             obtain ⟨ob,rc,m1,m2,m3⟩:=k3 _ _ ho
             rw [show p+(i - p)=i from by omega] at m1
             refine Zs7 (L:=fun j=>listed.getD j false) (n0:=nx) hτ hκ hT hio m1 (hobs ob m2) m3 k0 hpairs hds hRlt rfl h2 (fun q hq hl j hj _=>hd q.i (hRlt q hq) hl j hj) (fun j hj _=>h3 j hj) hr hf (fun a' E' hr' hf'=>?_)
             have hset:∀ j,(listed.setIfInBounds i true).getD j false=Zmy (fun j=>listed.getD j false) i j:=fun j=>by rw [Zd7 (by omega)];rfl
             refine ih (listed.setIfInBounds i true) a' E' (by simpa using hs) (ZsJ hT hs hd hi) (fun j hj=>?_) (fun j hj hqj=>?_) ?_ ?_ (fun q hq hl=>hf' q hq (by rw [← hset];exact hl))
             ·rw [Zd7 (by omega),hlo j hj];rfl
             ·rw [Zd7 (by omega),hhi j hj hqj];simp;omega
             ·have:=ZrA hs h1 h2;omega
             ·rw [ZcF (p:=fun j=>(listed.setIfInBounds i true).getD j false) (q:=Zmy (fun j=>listed.getD j false) i)]
              ·exact hr'
              ·intro r _;exact hset r.i
         obtain ⟨E,rfl,r1⟩:=hr
         refine key fuel listed a E hB.1 (ZrX hT hB) (fun j hj=>by rw [hB.2 j (by omega)];simpa using hj) (fun j hj hqj=>?_) hc ?_ (fun r hr _=>r1.fresh _ (by show nx≤nx+r.i;omega))
         ·have hqp:p≤q:=by omega
          rw [hB.2 j hj];simp;omega
         ·rw [ZfJ]
          ·exact ⟨r1.good,fun l hl=>r1.fresh l (by have:nx+ops.size≤l:=hl;show nx≤l;omega),r1.step,r1.drawn,r1.size,r1.df,r1.rep⟩
          ·intro r hr
           have:=k1 r hr
           rw [hB.2 r.i (hRlt r hr)];simp;omega
def Zvx (l:List Nat):Nat→Nat→Nat
 | 0,k=>k
 | f+1,k=>match ZdT k l with
   | true=>Zvx l f (k+1)
   | false=>k
def Zq5 (T:List (Nat×List Nat)):Nat→Nat→Nat→List Nat→List Nat
 | 0,_,_,acc=>acc
 | i+1,n,m,acc=>match Zvx (ZeQ i T) n 0 with
   | k=>match Nat.ble k m with
     | true=>match Nat.ble i k with
       | true=>match i with
         | 0=>acc
         | j+1=>Zq5 T i n k (i::acc)
       | false=>Zq5 T i n k acc
     | false=>match Nat.ble i m with
       | true=>match i with
         | 0=>acc
         | j+1=>Zq5 T i n m (i::acc)
       | false=>Zq5 T i n m acc
def Zti (τ:ZaA) (κ:Zaf) (X:XT) (l:List Oper) (s:St) (k:St→Prop):Prop:=match l.length with
 | n=>match ZvI 0 l [] with
   | T=>match Zl8 T 0 l with
     | false=>False
     | true=>match Zq5 T n n n [n] with
       | qs=>ZpE τ κ X T l n qs 0 l s k
theorem Rel.drawn {cx:Cx} {s:St} {a:Act} {w:World} (h:Rel P cx s a w):Rel P cx s a { w with drawn:=w.drawn+1 }:=by
 obtain ⟨E,rfl,r⟩:=h
 obtain ⟨g,st⟩:=r.good.at (w:={ E.w with drawn:=E.w.drawn+1 }) rfl (Nat.le_succ _) rfl rfl rfl
 exact ⟨E.at _,rfl,g,r.fresh,by simpa using r.step.trans st,Nat.le_trans r.drawn (Nat.le_succ _),r.size,r.df.ext st.ext,fun t=>(r.rep t).mono st.ext⟩
theorem ZsF (hτ : Zbl P τ) (hκ : Zay P κ) (hm : P.follows .mixedOrders = true) {r : Option Nat} {cx : Cx} {X : XT} (hX : XOk P r cx X) {id : Nat} {ops : Array Oper} {s : St} {k : St → Prop} {R : Zjj} (h : Zti τ κ X ops.toList s k) {a : Act} {w : World} (hr : Rel P cx s a w)
 (hk:∀ s' a' w',Inv s s'→k s'→Rel P cx s' a' w'→R .normal a' w'):(Code.region id ops true).wpIn (fz r) 0 P R a w:=by
 refine wpIn_region_any hm ?_
 unfold Zti at h
 simp only at h
 split at h
 ·exact h.elim
 ·rename_i hp
  refine Zkq hτ hκ hX (PT.of hp) _ 0 _ s k rfl (Nat.zero_le _) (fun i _ _ j hj=>absurd hj (by omega)) (by simpa using h) _ _ a _ ⟨by simp,fun j hj=>?_⟩ ?_ hr.drawn hk
  ·simp [Array.getD_eq_getD_getElem?,hj]
  ·refine Nat.le_trans (List.length_filter_le _ _) (by simp)
theorem Ztv (hτ:Zbl P τ) (hκ:Zay P κ) (hm:P.follows .mixedOrders=true):DOk P (Zti τ κ):=fun X id ops s k cx r R hX h a w hr hk=>ZsF hτ hκ hm hX h hr hk
abbrev walk (τ:ZaA) (κ:Zaf) (φ:Nat→Option FX):Zir:=Zwp τ κ φ (Zti τ κ) 8
theorem Zq (hτ:Zbl P τ) (hκ:Zay P κ) (hφ:∀ g fi,φ g=some fi→fi.Ok P g) (hm:P.follows .mixedOrders=true):Zf2 P (walk τ κ φ):=ZqR hτ hκ hφ (Ztv hτ hκ hm) 8
end Go.Proofs.YtgpdnmfpgkkgcaaGreatDoor
namespace Go.Proofs.YtgpdnmfpgkkgcaaGreatDoor
open Go
set_option linter.unusedVariables false
variable {P:Program} {τ:ZaA} {κ:Zaf} {φ:Nat→Option FX}
def Zch.{u} {α:Type u} (n:Nat):List (Nat×α)→Option α
 | []=>none
 | (m,x)::r=>match Nat.beq m n with
   | true=>some x
   | false=>Zch n r
def ZbU (n:Nat):List (Nat×CX)→Option CX
 | []=>none
 | (m,x)::r=>match Nat.beq m n with
   | true=>some x
   | false=>ZbU n r
theorem ZhP {α:Type} {n:Nat} {x:α}:∀ {l:List (Nat×α)},Zch n l=some x→(n,x)∈l
 | [],h=>by cases h
 | (m,y)::r,h=>by
   simp only [Zch] at h
   split at h
   ·rename_i e;cases h;rw [Nat.eq_of_beq_eq_true e];exact List.mem_cons_self
   ·exact List.mem_cons_of_mem _ (ZhP h)
theorem Ztl:Zay P (fun n=>ZbU n []):=fun _ _ h=>by cases h
theorem ZkD {f:Nat} {c:CX} {l:List (Nat×CX)} (h:c.Ok P f) (k:Zay P (fun n=>ZbU n l)):Zay P (fun n=>ZbU n ((f,c)::l)):=fun g d hd=>by
 simp only [ZbU] at hd
 split at hd
 ·rename_i e;cases hd;rw [← Nat.eq_of_beq_eq_true e];exact h
 ·exact k g d hd
theorem Zh {f:Nat} {c:Con} {l:List (Nat×CX)} (h:Zaj P f c) (k:Zay P (fun n=>ZbU n l)):Zay P (fun n=>ZbU n ((f,.con c)::l)):=ZkD (c:=.con c) h k
theorem ZoZ {f:Nat} {r:ZpW} {l:List (Nat×CX)} (h:ZkM P f r) (k:Zay P (fun n=>ZbU n l)):Zay P (fun n=>ZbU n ((f,.row r)::l)):=ZkD (c:=.row r) h k
theorem Lp.wf {σ:Type} {body:σ→(σ→Prop)→Prop} (I:σ→Prop) (μ:σ→Nat) (h:∀ y,I y→∀ R:σ→Prop,(∀ y',I y'→μ y' < μ y→R y')→body y R) {x:σ} (hx:I x):Lp body x:=by
 intro R hR
 have key:∀ n y,μ y < n→I y→R y:=by
  intro n
  induction n with
  | zero=>exact fun y hn=>absurd hn (Nat.not_lt_zero _)
  | succ n ih=>exact fun y hn hy=>hR _ (h y hy R fun y' hy' hlt=>ih y' (by omega) hy')
 exact key (μ x+1) x (Nat.lt_succ_self _) hx
end Go.Proofs.YtgpdnmfpgkkgcaaGreatDoor
namespace Go.Proofs.YtgpdnmfpgkkgcaaGreatDoor
open Go
set_option linter.unusedVariables false
def ZoX:Ty→List Value
 | .int k=>[.int k 0]
 | .bool=>[.bool false]
 | .str=>[.string ByteArray.empty]
 | .sl _=>[.slice none 0 0]
 | .pair a b=>ZoX a++ZoX b
 | .unit=>[]
theorem ZgF (w:World) (S:Nat→Prop):∀ T:Ty,Zbu w S T T.dflt (ZoX T)
 | .int _=>rfl
 | .bool=>rfl
 | .str=>rfl
 | .sl _=>⟨none,0,rfl,⟨Nat.le_refl _,Nat.zero_le _⟩,fun h=>absurd rfl h⟩
 | .pair a b=>⟨_,_,rfl,ZgF w S a,ZgF w S b⟩
 | .unit=>rfl
theorem Zso {P:Program} {l:List (Nat×TI)} (h:∀ p∈l,p.2.Ok P p.1):Zbl P (fun t=>Zch t l):=fun t i ht=>h (t,i) (ZhP ht)
theorem ZqS {P:Program} {l:List (Nat×TI)} (h:∀ p∈l,p.2.Ok P p.1) (q:Nat×TI→Bool):Zbl P (fun t=>Zch t (l.filter q)):=fun t i ht=>h (t,i) (List.mem_filter.1 (ZhP ht)).1
theorem TI.ok_mk {P : Program} {t : TypeId} {ti : TI} (h : (P.info? t).map (fun i => (i.size, i.bytes, i.zero.map fun z => (z.cells.toList, z.cells.size))) = some (ti.size, ti.bytes, some (ti.zero, ti.size)))
 (hk:match ti.k with
 | .int k=>P.underlying t=some (.int k)
 | .bool=>P.underlying t=some .bool
 | .str=>P.underlying t=some .string
 | .sl e=>P.underlying t=some (.slice e)
 | .arr n e=>P.underlying t=some (.array n e)∧∃ zs sz,(P.info? e).map (fun ie=>(ie.zero.map fun z=>z.cells.toList,ie.size))=some (some zs,sz)∧ti.zero=(List.replicate n zs).flatten∧ti.size=n*sz∧0 < n∧n≤9223372036854775807∧0 < sz
 | .st offs=>∃ fs,P.underlying t=some (.struct fs)∧fs.toList.map (fun f=>(f.offset,P.cellsOf f.type))=offs∧∀ p∈offs,p.2≠0
 | .ptr=>∃ e,P.underlying t=some (.pointer e)
 | .map k e=>P.underlying t=some (.map k e)∧(P.info? e).map (fun ie=>ie.zero.map fun z=>z.oneCell')=some (some true)
 | .fn=>∃ ps rs v,P.underlying t=some (.func ps rs v)
 | .other=>True) (hc:match ti.code with | some T=>T.size=ti.size∧0 < ti.size∧ZoX T=ti.zero | none=>True):ti.Ok P t:=by
 obtain ⟨k,size,bytes,zero,code⟩:=ti
 refine ⟨?_,?_,fun T hT=>?_⟩
 ·simp only [Option.map_eq_some_iff,Prod.mk.injEq] at h
  obtain ⟨i,hi,h1,h2,h3⟩:=h
  obtain ⟨z,hz,h4,h5⟩:=h3
  exact ⟨i,z,hi,h1,h2,hz,h4,h5⟩
 ·cases k
  case arr n e =>
   obtain ⟨h1,zs,sz,h2,h3⟩:=hk
   simp only [Option.map_eq_some_iff,Prod.mk.injEq] at h2
   obtain ⟨ie,hie,⟨ze,hze,rfl⟩,rfl⟩:=h2
   exact ⟨h1,ie,ze,hie,hze,h3⟩
  case map k e =>
   obtain ⟨h1,h2⟩:=hk
   simp only [Option.map_eq_some_iff] at h2
   obtain ⟨ie,hie,ze,hze,h3⟩:=h2
   exact ⟨h1,ie,ze,hie,hze,h3⟩
  all_goals exact hk
 ·simp only at hT
  subst hT
  obtain ⟨h1,h2,h3⟩:=hc
  exact ⟨h1,h2,fun w S=>by simp only at h3;rw [← h3];exact ZgF w S T⟩
def Zbq (f:Func):FI:=⟨f.ntmps,f.results.toList,match f.body with | some c=>c | none=>.skip⟩
theorem Zbp {P : Program} {g : FuncId} {f : Func} (h : P.funcs[g]? = some f) (hb : f.body.isSome = true) (hn : (f.name == "runtime.NumGoroutine") = false) : (Zbq f).Ok P g := by
 refine ⟨f,h,?_,rfl,rfl,hn⟩
 unfold Zbq
 cases hf:f.body with
 | some c=>rfl
 | none=>rw [hf] at hb;cases hb
theorem ZsX {P:Program}:∀ g fx,(fun n=>Zch n ([]:List (Nat×FX))) g=some fx→fx.Ok P g:=fun _ _ h=>by cases h
theorem Zbs {P:Program} {l:List (Nat×FX)} {f:Nat} {x:FX} (h:x.Ok P f) (k:∀ g fx,(fun n=>Zch n l) g=some fx→fx.Ok P g):∀ g fx,(fun n=>Zch n ((f,x)::l)) g=some fx→fx.Ok P g:=fun g fx hg=>by
 simp only [Zch] at hg
 split at hg
 ·rename_i e;cases hg;rw [← Nat.eq_of_beq_eq_true e];exact h
 ·exact k g fx hg
theorem Zg {P : Program} {τ : ZaA} (hτ : Zbl P τ) {run : Zir} (hrun : Zf2 P run) {A : An} {f : FuncId} {fi : FI} (hok : fi.Ok P f) {ps : List PS} {rs : List Ty} {pre : Option (Zb9 ps → Prop)} {fn : Zb9 ps → Zbf rs} {Wp : Zb9 ps → (Zbf rs → Prop) → Prop}
 (hw:∀ xs Q,Wp xs Q=fnW τ run A fi ps rs xs Q) (hs:∀ xs,ZlO ps xs→okP (Con.ob ⟨ps,pre,fun xs=>Zbv rs (fn xs)⟩ xs)→Wp xs (fun r=>r=fn xs)):Zaj P f ⟨ps,pre,fun xs=>Zbv rs (fn xs)⟩ :=
 Ztk hτ hrun hok fun xs hl hp=>hw xs _▸hs xs hl hp
end Go.Proofs.YtgpdnmfpgkkgcaaGreatDoor
namespace Go.Proofs.YtgpdnmfpgkkgcaaGreatDoor
open Go
set_option linter.unusedVariables false
variable {P:Program} {τ:ZaA} {κ:Zaf}
def Zwc:List Nat→List Nat→Bool
 | [],_=>true
 | l::r,M=>match ZdT l M with
   | true=>Zwc r M
   | false=>false
theorem Zog:∀ {a b:List Nat},Zwc a b=true→∀ l∈a,l∈b
 | [],_,_,l,h=>by simp at h
 | k::r,b,h,l,hl=>by
   simp only [Zwc] at h
   split at h
   ·rename_i hk
    rcases List.mem_cons.1 hl with rfl | hl
    ·exact Zby.1 hk
    ·exact Zog h l hl
   ·cases h
def Zwk (τ:ZaA) (run:Zir) (A:An) (fi:FI) (R:ZpG) (a:R.α) (b:R.β) (Q:Zbf R.rs→R.β→Prop):Prop:=match fi with
 | ⟨nt,res,code⟩=>match R.vals a with
   | vs=>match Nat.ble vs.length nt with
     | false=>False
     | true=>run A [] false code ⟨nt,ZcL 0 vs,R.objs b,R.k,[],[],[],[]⟩ (fun e s=>match Zjq e with
       | false=>False
       | true=>match Zgp τ res s with
         | none=>False
         | some (v,s2)=>match Zwc s2.mv R.mv with
           | false=>False
           | true=>match Znb R.rs v with
             | none=>False
             | some r=>match R.back s2.objs with
               | none=>False
               | some b'=>Q r b')
theorem Ztc (hτ:Zbl P τ) {run:Zir} (hrun:Zf2 P run) {A:An} {f:FuncId} {fi:FI} (hok:fi.Ok P f) {R:ZpG} (hl:R.Law) (h:∀ a b,R.pre a b→Zwk τ run A fi R a b (R.post a b)):Sp.Ok P f (.self R):=by
 refine ⟨hl,hok.call,fun E objs vs ks a b g hg hp cs rv=>?_⟩
 obtain ⟨g0,hf0,hr0⟩:=ZmA hl g hg
 have rs:=hr0 rv
 have hin:CallsIn (fz none) 0 P f cs.toArray E.w fun e w2=>∃ u E' r b',e=.returned u∧E'.w=w2∧R.post a b r b'∧Zak P E' (ZbJ R ks b' objs)∧Zcj E objs E' (ZbJ R ks b' objs) (mvK ks R.mv)∧E.w.drawn≤w2.drawn∧Rep P E' (Zbv R.rs r) u:=by
  obtain ⟨fn,h1,h2,h3,h4,h5⟩:=hok
  have hw:=h a b hp
  obtain ⟨nt,res,code⟩:=fi
  unfold Zwk at hw
  simp only at hw h2 h3 h4
  split at hw
  ·exact hw.elim
  ·rename_i hlen
   have hrel:=ZeB (nt:=nt) (cargs:=cs.toArray) g0 hf0 (by simpa using rs) (Nat.le_of_ble_eq_true hlen)
   refine callsIn_of_wp_marks h1 h2 trivial ?_
   rw [h3]
   refine hrun A [] none code _ _ ⟨ZmP ks E,R.objs b⟩ _ hw _ E.w hrel (fun e s1 a1 w1 hi hk hr1=>?_)
   have fin:Zjq e=true→LeavesInM (fz none) 0 P fn a1.tmps (fun e w2=>∃ u E' r b',e=.returned u∧E'.w=w2∧R.post a b r b'∧Zak P E' (ZbJ R ks b' objs)∧Zcj E objs E' (ZbJ R ks b' objs) (mvK ks R.mv)∧E.w.drawn≤w2.drawn∧Rep P E' (Zbv R.rs r) u) a1.defers .returning w1:=fun he=>by
    rw [he] at hk
    simp only at hk
    split at hk
    ·exact hk.elim
    ·rename_i v s2 hf
     split at hk
     ·exact hk.elim
     ·rename_i hmv
      split at hk
      ·exact hk.elim
      ·rename_i r hr
       split at hk
       ·exact hk.elim
       ·rename_i b' hb
        refine Zgm hτ (fi:=⟨nt,res,code⟩) h4 hf hr1 (fun u E2 haft hu=>?_)
        obtain ⟨k1,k2⟩:=Zra hl g hg haft.good haft.step (Zog hmv) hb
        exact ⟨u,Zmq ks E E2,r,b',rfl,rfl,hk,k1,k2,haft.drawn,Znz (Zh3 hr hu)⟩
   cases e with
   | normal=>exact fin rfl
   | ret=>exact fin rfl
   | _=>exact hk.elim
 exact callsIn_wide.1 hin
def fnL (τ:ZaA) (run:Zir) (A:An) (fi:FI) (ps:List PS) (xs:Zb9 ps) (Q:List Int×Int→Prop):Prop:=match fi with
 | ⟨nt,res,code⟩=>match Zjw ps xs with
   | vs=>match Nat.ble vs.length nt with
     | false=>False
     | true=>run A [] false code ⟨nt,ZcL 0 vs,[],0,[],[],[],[]⟩ (fun e s=>match Zjq e with
       | false=>False
       | true=>match Zgp τ res s with
         | none=>False
         | some (v,s2)=>match v with
           | .agg [.osl l,.d (.int .i64) k]=>match Zy l s2.objs with
             | some (.row (.int .i64) ys)=>Q (ys,k)
             | _=>False
           | _=>False)
theorem Zta (hτ:Zbl P τ) {run:Zir} (hrun:Zf2 P run) {A:An} {f:FuncId} {fi:FI} (hok:fi.Ok P f) {c:Zwb} (h:∀ ys,ZlO c.ps ys→c.pre ys→fnL τ run A fi c.ps ys (fun r=>r=c.fn ys)):Zqw P f c:=by
 refine ⟨hok.call,fun E objs n ys g hn hp args ra=>?_⟩
 have hw:=h ys (Ze2 ra) hp
 have g0:Zak P ⟨E.w,E.S,fun _=>none⟩ []:=Zgu g.sok
 have hin:CallsIn (fz none) 0 P f args E.w fun e w2=>∃ u E',e=.returned u∧E'.w=w2∧Zak P E' ((n,.row (.int .i64) (c.fn ys).1)::objs)∧Zcj E objs E' ((n,.row (.int .i64) (c.fn ys).1)::objs) []∧E.w.drawn≤w2.drawn∧Rep P E' (.agg [.osl n,.d (.int .i64) (c.fn ys).2]) u:=by
  obtain ⟨fn,h1,h2,h3,h4,h5⟩:=hok
  obtain ⟨nt,res,code⟩:=fi
  unfold fnL at hw
  simp only at hw h2 h3 h4
  split at hw
  ·exact hw.elim
  ·rename_i hlen
   have hrel:=ZeB (nt:=nt) (nx:=0) g0 (fun _ _=>rfl) ra (Nat.le_of_ble_eq_true hlen)
   refine callsIn_of_wp_marks h1 h2 trivial ?_
   rw [h3]
   refine hrun A [] none code _ _ ⟨⟨E.w,E.S,fun _=>none⟩,[]⟩ _ hw _ E.w hrel (fun e s1 a1 w1 hi hk hr1=>?_)
   have fin:Zjq e=true→LeavesInM (fz none) 0 P fn a1.tmps (fun e w2=>∃ u E',e=.returned u∧E'.w=w2∧Zak P E' ((n,.row (.int .i64) (c.fn ys).1)::objs)∧Zcj E objs E' ((n,.row (.int .i64) (c.fn ys).1)::objs) []∧E.w.drawn≤w2.drawn∧Rep P E' (.agg [.osl n,.d (.int .i64) (c.fn ys).2]) u) a1.defers .returning w1:=fun he=>by
    rw [he] at hk
    simp only at hk
    split at hk
    ·exact hk.elim
    ·rename_i v s2 hf
     split at hk
     ·rename_i l k
      split at hk
      ·rename_i zs ho
       refine Zgm hτ (fi:=⟨nt,res,code⟩) h4 hf hr1 (fun u E2 haft hu=>?_)
       obtain ⟨rfl,rfl⟩:zs=(c.fn ys).1∧k=(c.fn ys).2:=by rw [← hk];exact ⟨rfl,rfl⟩
       obtain ⟨L,hL,hat⟩:=haft.good.at_ l _ ho
       have st:=haft.step
       have hd0:∀ b,¬ Zdj (⟨E.w,E.S,fun _=>none⟩:Env) [] b:=fun b ⟨_,_,_,h,_⟩=>by cases h
       have hx:Ext E ⟨E2.w,E2.S,fun j=>if j=n then E2.loc l else E.loc j⟩ []:=⟨fun b hb=>st.ext.S b hb,fun j K _ hK=>by
        have:j≠n:=fun e=>by subst e;rw [hn] at hK;cases hK
        simp only [if_neg this];exact hK⟩
       have hfr:∀ b,b < E.w.heap.size→E2.w.heap[b]?=E.w.heap[b]?:=fun b hb=>st.frame b hb (hd0 b)
       have hnew:∀ b,Zdj E2 s2.objs b→E.w.heap.size≤b:=fun b hb=>(st.own b hb).elim id fun h=>(hd0 b h).elim
       have hat':ZaY P ⟨E2.w,E2.S,fun j=>if j=n then E2.loc l else E.loc j⟩ L (.row (.int .i64) (c.fn ys).1) :=
        hat.keepS (E':=⟨E2.w,E2.S,fun j=>if j=n then E2.loc l else E.loc j⟩) (f:=fun _=>.any) (fun v c r=>Zb8 (E:=E2) (E':=⟨E2.w,E2.S,fun j=>if j=n then E2.loc l else E.loc j⟩) (fun b hb=>⟨hb,rfl⟩) (fun v c _ _=>.any c) r) (fun b hb=>⟨hb,rfl⟩) (fun _=>rfl)
       have hcase:∀ j o,Zy j ((n,Obj.row (.int .i64) (c.fn ys).1)::objs)=some o→(j=n∧o=.row (.int .i64) (c.fn ys).1)∨(j≠n∧Zy j objs=some o):=fun j o h=>by
        rw [Zo] at h
        split at h
        ·rename_i e;cases h;exact .inl ⟨e.symm,rfl⟩
        ·rename_i e;exact .inr ⟨fun e'=>e e'.symm,h⟩
       have hown:∀ b,Zdj (⟨E2.w,E2.S,fun j=>if j=n then E2.loc l else E.loc j⟩:Env) ((n,Obj.row (.int .i64) (c.fn ys).1)::objs) b→(Zdj E2 s2.objs b∧E.w.heap.size≤b)∨Zdj E objs b:=fun b ⟨j,o,K,k1,k2,k3,k4⟩=>by
        rcases hcase j o k1 with ⟨rfl,rfl⟩ | ⟨hne,ho'⟩
        ·simp only [if_true] at k2
         have hb:Zdj E2 s2.objs b:=⟨l,_,K,ho,k2,k3,k4⟩
         exact .inl ⟨hb,hnew b hb⟩
        ·simp only [if_neg hne] at k2
         exact .inr ⟨j,o,K,ho',k2,k3,k4⟩
       refine ⟨u,⟨E2.w,E2.S,fun j=>if j=n then E2.loc l else E.loc j⟩,rfl,rfl,⟨fun j o h=>?_,fun b hb hs=>?_,haft.good.sl,haft.good.tab,fun i j o o' K K' k1 k2 k3 k4 k5 k6 k7=>?_⟩,
        ⟨hx,st.os,st.tape,st.output,st.size,fun b hb _=>hfr b hb,fun b hb=>?_,fun b hb=>?_,fun j h=>?_,fun j h=>?_⟩,haft.drawn,?_⟩
       ·rcases hcase j o h with ⟨rfl,rfl⟩ | ⟨hne,ho'⟩
        ·exact ⟨L,by simp only [if_true];exact hL,hat'⟩
        ·obtain ⟨K,hK,ha⟩:=g.at_ j o ho'
         exact ⟨K,by simp only [if_neg hne];exact hK,ha.keep hx fun hh=>hfr _ (g.own_lt ⟨j,o,K,ho',hK,hh,rfl⟩)⟩
       ·rcases hown b hb with ⟨h,_⟩ | h
        ·exact haft.good.ns b h hs
        ·rcases st.st b hs with k | k | k
         ·exact g.ns b h k
         ·have:=g.own_lt h
          have k:E.w.heap.size≤b:=k
          omega
         ·exact hd0 b k
       ·rcases hcase i o k1 with ⟨rfl,rfl⟩ | ⟨hne,ho1⟩
        ·rcases hcase j o' k2 with ⟨rfl,rfl⟩ | ⟨hne',ho2⟩
         ·rfl
         ·simp only [if_true] at k3
          simp only [if_neg hne'] at k4
          have a1:=hnew K.b ⟨l,_,K,ho,k3,k5,rfl⟩
          have a2:=g.own_lt ⟨j,o',K',ho2,k4,k6,rfl⟩
          omega
        ·simp only [if_neg hne] at k3
         rcases hcase j o' k2 with ⟨rfl,rfl⟩ | ⟨hne',ho2⟩
         ·simp only [if_true] at k4
          have a1:=hnew K'.b ⟨l,_,K',ho,k4,k6,rfl⟩
          have a2:=g.own_lt ⟨i,o,K,ho1,k3,k5,rfl⟩
          omega
         ·simp only [if_neg hne'] at k4
          exact g.inj i j o o' K K' ho1 ho2 k3 k4 k5 k6 k7
       ·rcases hown b hb with ⟨_,h⟩ | h
        ·exact .inl h
        ·exact .inr h
       ·rcases st.st b hb with k | k | k
        ·exact .inl k
        ·exact .inr (.inl k)
        ·exact (hd0 b k).elim
       ·rw [Zo] at h
        split at h
        ·cases h
        ·exact h
       ·rw [Zo] at h
        split at h
        ·cases h
        ·rename_i e;simp only [if_neg fun e'=>e (Eq.symm e')]
       ·have hag:=Zm5 hu
        obtain ⟨ca,rfl,rr⟩:=hag
        match hc:ca.toList,rr with
        | [c1,c2],rr =>
          obtain ⟨K,hK,rfl⟩:=ZbW rr.head
          have e2:=rr.tail.head.int_inv
          subst e2
          have hca:ca=#[K.v,.int .i64 (c.fn ys).2]:=Array.ext' (by rw [hc])
          rw [hca]
          refine .agg rfl fun j hj=>?_
          match j,hj with
          | 0,_=>exact .osl (L:=K) (by show (if n=n then E2.loc l else E.loc n)=some K;rw [if_pos rfl];exact hK)
          | 1,_=>exact .mk_int _ _
        | [],rr=>exact absurd rr.1 (by simp)
        | [_],rr=>exact absurd rr.1 (by simp)
        | _::_::_::_,rr=>exact absurd rr.1 (by simp)
      ·exact hk.elim
     ·exact hk.elim
   cases e with
   | normal=>exact fin rfl
   | ret=>exact fin rfl
   | _=>exact hk.elim
 exact callsIn_wide.1 hin
end Go.Proofs.YtgpdnmfpgkkgcaaGreatDoor
namespace Go.Proofs.YtgpdnmfpgkkgcaaGreatDoor
open Go
set_option linter.unusedVariables false
variable {P:Program} {τ:ZaA} {κ:Zaf}
theorem Zsf {r:Option Nat} {o:Oper} {a:Act} {w w':World} {v:Value} {next:Act→World→Prop} {Q:Zjj} (hd:∀ c,o.op≠.defer c) (h:(execOp a.eval o).run P w=.ok (.value v) w') (hn:next (a.put o.dst v) w'):o.wpIn (fz r) 0 P a w next Q:=by
 refine ⟨fun _ _=>trivial,?_⟩
 rw [Oper.semAt_eq _ _ _ hd,h]
 exact hn
theorem Ztb {E:Env} {objs:ZaC} (g:Zak P E objs) (c:Value) (t:TypeId):∃ E',E'.w=E.w.alloc (.cells #[c] t)∧E'.S E.w.heap.size∧Zak P E' objs∧Zcj E objs E' objs []:=by
 have g0:Zak P ⟨E.w,E.S,fun _=>none⟩ []:=Zgu g.sok
 obtain ⟨E1,hw,g1,s1,hl⟩:=Zgi (n:=0) (cs:=[V.any]) (vals:=#[c]) (t:=t) g0 rfl (.cons (.any c) .nil)
 obtain ⟨g2,s2⟩:=g1.still (l:=0) (by rfl) hl
 have st:=s1.trans s2
 have hd0:∀ b,¬ Zdj (⟨E.w,E.S,fun _=>none⟩:Env) [] b:=fun b ⟨_,_,_,h,_⟩=>by cases h
 have hfr:∀ b,b < E.w.heap.size→E1.w.heap[b]?=E.w.heap[b]?:=fun b hb=>st.frame b hb (hd0 b)
 have hx:Ext E ⟨E1.w,(E1.still E.w.heap.size ((Obj.box [V.any]).has { b:=E.w.heap.size })).S,E.loc⟩ []:=⟨fun b hb=>st.ext.S b hb,fun j K _ hK=>hK⟩
 have hown:∀ b,Zdj (⟨E1.w,(E1.still E.w.heap.size ((Obj.box [V.any]).has { b:=E.w.heap.size })).S,E.loc⟩:Env) objs b→Zdj E objs b:=fun b ⟨l,o,L,h1,h2,h3,h4⟩=>⟨l,o,L,h1,h2,h3,h4⟩
 have hst:∀ b,(E1.still E.w.heap.size ((Obj.box [V.any]).has { b:=E.w.heap.size })).S b→E.S b∨E.w.heap.size≤b:=fun b hb=>by
  rcases st.st b hb with k | k | k
  ·exact .inl k
  ·exact .inr k
  ·exact (hd0 b k).elim
 refine ⟨⟨E1.w,(E1.still E.w.heap.size ((Obj.box [V.any]).has { b:=E.w.heap.size })).S,E.loc⟩,hw,.inr ⟨trivial,rfl⟩,⟨fun l o h=>?_,fun b hb hs=>?_,g2.sl,g2.tab,fun i j o o' K K' k1 k2 k3 k4=>g.inj i j o o' K K' k1 k2 k3 k4⟩,
  ⟨hx,st.os,st.tape,st.output,st.size,fun b hb _=>hfr b hb,fun b hb=>.inr (hown b hb),fun b hb=>(hst b hb).elim .inl fun h=>.inr (.inl h),fun l h=>h,fun l h=>rfl⟩⟩
 ·obtain ⟨K,hK,ha⟩:=g.at_ l o h
  exact ⟨K,hK,ha.keep hx fun hh=>hfr _ (g.own_lt ⟨l,o,K,h,hK,hh,rfl⟩)⟩
 ·have hb':=hown b hb
  rcases hst b hs with k | k
  ·exact g.ns b hb' k
  ·have:=g.own_lt hb'
   omega
def Zqj (i1 i2:Nat) (t t1 t2 t3 t4:TypeId) (h:FuncId) (p1 p2 p3 p4:String) (af:Array Edge):Code :=
 (Code.region i1 #[{ dst:=some 1,op:=Op.box t (.tmp 0),type:=t1,pos:=p1,after:=#[],guard:=none },{ dst:=some 2,op:=Op.assign (.const .nilFunc),type:=t2,pos:=p2,after:=#[],guard:=none }] false).seq
  ((Code.region i2 #[{ dst:=some 3,op:=Op.makeFunc (.func h) #[] #[.tmp 1],type:=t3,pos:=p3,after:=#[],guard:=none },{ dst:=some 2,op:=Op.assign (.tmp 3),type:=t4,pos:=p4,after:=af,guard:=none }] false).seq .ret)
theorem Zsl {f:FuncId} {fi:FI} (hok:fi.Ok P f) {i1 i2:Nat} {t t1 t2 t3 t4:TypeId} {h:FuncId} {p1 p2 p3 p4:String} {af:Array Edge} (hfi:fi=⟨4,[.tmp 2],Zqj i1 i2 t t1 t2 t3 t4 h p1 p2 p3 p4 af⟩):ZsS P f h:=by
 refine ⟨hok.call,fun E objs v c g hs rc=>?_⟩
 obtain ⟨E',hw,hS,g',st⟩:=Ztb g c t
 have hone:=Zet hs rc
 have hcells:c.cells=#[c]:=by
  cases c<;>simp_all [Value.oneCell',Value.cells]
 obtain ⟨fn,h1,h2,h3,h4,h5⟩:=hok
 subst hfi
 simp only at h2 h3 h4
 have hin:CallsIn (fz none) 0 P f #[c] E.w fun e w2=>∃ u E',e=.returned u∧E'.w=w2∧Zak P E' objs∧Zcj E objs E' objs []∧E.w.drawn≤w2.drawn∧Rep P E' (.fn (.func h) [] [.er [v]]) u:=by
  refine callsIn_of_wp_marks h1 h2 trivial ?_
  rw [h3]
  unfold Zqj
  refine wpIn_seq (wpIn_region ?_)
  show wpOpsIn (fz none) 0 P _ _ [0,1] _ _
  simp only [wpOpsIn]
  simp [Region.wanted]
  refine Zsf (v:=.pointer (some ⟨E.w.heap.size,0,none⟩)) (w':=E'.w) (fun _ h=>by cases h) ?_ ?_
  ·show ((do let v ← Instr.box t _;pure (Next.value v):Sem Next)).run P E.w=_
   rw [hw]
   simp [Instr.box,newVar,newRow,Act.eval,hcells]
  ·refine Zsf (v:=.nilFunc) (w':=E'.w) (fun _ h=>by cases h) rfl ?_
   refine wpIn_seq (wpIn_region ?_)
   show wpOpsIn (fz none) 0 P _ _ [0,1] _ _
   simp only [wpOpsIn]
   simp [Region.wanted]
   refine Zsf (v:=.func (.func h) #[] #[.pointer (some ⟨E.w.heap.size,0,none⟩)]) (w':=E'.w) (fun _ h=>by cases h) ?_ ?_
   ·simp [execOp,Act.eval,Act.put,Instr.makeFunc]
   ·refine Zsf (v:=.func (.func h) #[] #[.pointer (some ⟨E.w.heap.size,0,none⟩)]) (w':=E'.w) (fun _ h=>by cases h) ?_ ?_
    ·rfl
    ·refine wpIn_ret ?_
     show LeavesInM _ _ _ _ _ _ _ _ _
     refine ⟨.func (.func h) #[] #[.pointer (some ⟨E.w.heap.size,0,none⟩)],?_,?_⟩
     ·rw [Zj4,Array.mapM_eq_mapM_toList,h4]
      rfl
     ·refine ⟨_,rfl,E',rfl,g',st,?_,.fn rfl rfl (fun j hj=>by cases hj) fun j hj=>?_⟩
      ·rw [hw];exact Nat.le_refl _
      ·match j,hj with
       | 0,_ =>
         refine .er (fun _=>c) hS (fun j hj=>?_) (fun j hj=>?_)
         ·have:j=0:=by simpa using hj
          subst this
          rw [ZcC (vals:=#[c]) (t:=t) (fr:=(0,0)) (by rw [hw];exact heap_alloc_new _ _)];rfl
         ·have:j=0:=by simpa using hj
          subst this
          exact rc.mono st.ext
 exact callsIn_wide.1 hin
end Go.Proofs.YtgpdnmfpgkkgcaaGreatDoor
