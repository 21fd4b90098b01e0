/- Part of a proof that a law of the program holds for every input: how abstract states follow the program. No conditions. -/
import Derived.Test.YtgpdnmfpgkkgcaaGreatDoorF02
namespace Go.Proofs.YtgpdnmfpgkkgcaaGreatDoor
open Go
set_option linter.unusedVariables false
variable {P:Program} {τ:Zaj} {κ:Z0} {φ:Nat→Option FX}
def Lp {σ:Type} (body:σ→(σ→Prop)→Prop) (x:σ):Prop:=∀ R:σ→Prop,(∀ y,body y R→R y)→R x
def Zp4 {σ:Type} (K:σ→Prop) (body:(σ→Prop)→Prop):Prop:=body K
def Zcu:Code→Option Nat
 | .region id _ _=>some id
 | .seq a b=>match Zcu a with
   | some n=>some n
   | none=>Zcu b
 | .cond _ a b=>match Zcu a with
   | some n=>some n
   | none=>Zcu b
 | .block _ c=>Zcu c
 | .loop c=>Zcu c
 | .scope c=>Zcu c
 | .rangeFunc _ _ a _=>Zcu a
 | _=>none
def An.join (A:An) (d:Code):Option LA:=match Zcu d with
 | some n=>A.jn n
 | .none=>.none
def St.add (s:St) (la:LA) (s0:St):St:=match la,s0,s with
 | ⟨vs,es,an,dd⟩,⟨_,_,_,_,_,wr0,di0,_⟩,⟨nt,tmps,objs,nx,df,wr,di,mv⟩=>⟨nt,tmps,objs,nx,df,wr++(an++(LA.tmps vs++wr0)),di++(ZeH vs++dd++di0),mv⟩
theorem Zmq {cx:Cx} {la:LA} {s0 s:St} {a:Act} {w:World} (h:Rel P cx s a w):Rel P cx (s.add la s0) a w:=by
 obtain ⟨E,e,r⟩:=h
 cases la;cases s0;cases s
 exact ⟨E,e,r.good,r.fresh,r.step,r.drawn,r.size,r.df,r.rep⟩
theorem ZpD {cx:Cx} {s:St} {a:Act} {w:World} (h:Rel P cx s a w):Rel P cx s.clr a w:=by
 obtain ⟨E,e,r⟩:=h
 cases s
 exact ⟨E,e,r.good,r.fresh,r.step,r.drawn,r.size,r.df,r.rep⟩
theorem ZuY {s:St}:s.clr.mv=s.mv:=by cases s;rfl
theorem Zq9 {la:LA} {s:St} {y:Zc8 la.vs}:∀ l∈s.mv,l∈(head la s y).mv:=by
 cases la;cases s
 exact fun l hl=>List.mem_append_right _ hl
theorem Zl9 {la:LA} {s0 s:St} (h:Hd la s0 s) (hm:∀ l∈s0.mv,l∈s.mv):Inv s0 (s.add la s0):=by
 obtain ⟨vs,es,an,dd⟩:=la
 obtain ⟨nt0,tmps0,objs0,nx0,df0,wr0,di0,mv0⟩:=s0
 obtain ⟨nt,tmps,objs,nx,df,wr,di,mv⟩:=s
 refine ⟨h.nt,h.nx,fun t ht=>?_,fun l hl=>?_,hm,fun t ht=>?_,fun l hl=>?_,fun hn=>?_⟩
 ·show t∈wr++(an++(LA.tmps vs++wr0))
  simp only [List.mem_append];exact .inr (.inr (.inr ht))
 ·show l∈di++(ZeH vs++dd++di0)
  simp only [List.mem_append];exact .inr (.inr hl)
 ·have ht:t∉wr++(an++(LA.tmps vs++wr0)):=ht
  simp only [List.mem_append,not_or] at ht
  exact h.tmp t ht.1 ht.2.1 ht.2.2.1
 ·have hl:l∉di++(ZeH vs++dd++di0):=hl
  simp only [List.mem_append,not_or] at hl
  exact h.obj l hl.1 (by show l∉ZeH vs++dd;simp only [List.mem_append,not_or];exact hl.2.1)
 ·have hn:nt0∉wr++(an++(LA.tmps vs++wr0)):=hn
  simp only [List.mem_append,not_or] at hn
  exact h.df hn.1
def unW (body:St→(Exit→St→Prop)→Prop):Nat→St→(Exit→St→Prop)→Prop
 | 0,_,_=>False
 | n+1,s,k=>body s (fun e s'=>match e with
   | .normal=>unW body n s' k
   | e=>k e s')
abbrev DT:=XT→List Oper→St→(St→Prop)→Prop
def DOk (P:Program) (D:DT):Prop:=∀ (X:XT) (id:Nat) (ops:Array Oper) (s:St) (k:St→Prop) (cx:Cx) (r:Option Nat) (R:ZiC),XOk P r cx X→D X ops.toList s k→∀ a w,Rel P cx s a w→(∀ s' a' w',Inv s s'→k s'→Rel P cx s' a' w'→R .normal a' w') →
 (Code.region id ops true).wpIn (fz r) 0 P R a w
def ZqY (l:Nat) (k:Exit→St→Prop) (s:St):Prop:=match s with
 | ⟨nt,tmps,objs,nx,df,wr,di,mv⟩=>match Zdq l mv with
   | true=>False
   | false=>match Zs l objs with
     | some (.lrec _ _ _ _ _ st j)=>match st with
       | .busy=>False
       | _=>match j with
         | .no=>k .normal ⟨nt,tmps,(l,.dead)::objs,nx,df,wr,l::di,mv⟩
         | .ret=>k .ret ⟨nt,tmps,(l,.dead)::objs,nx,df,wr,l::di,mv⟩
         | .exit i=>k (.exit i) ⟨nt,tmps,(l,.dead)::objs,nx,df,wr,l::di,mv⟩
     | _=>False
def Zdt (τ:Zaj) (κ:Z0) (φ:Nat→Option FX) (D:DT) (run:ZiK) (A:An) (Y:List (Nat×An)) (ro:Bool):Nat→Code→St→(Exit→St→Prop)→Prop
 | _,.skip,s,k=>k .normal s
 | _,.label _,s,k=>k .normal s
 | _,.ret,s,k=>k .ret s
 | _,.exit i,s,k=>k (.exit i) s
 | _, .region id ops dr, s, k => ZcI (A.gs id) s (fun s1 => match ops.toList with
  | l=>match dr with
    | false=>ZkT τ κ (xW τ φ run A Y) l l [] s1 (fun s'=>k .normal s')
    | true=>D (xW τ φ run A Y) l s1 (fun s'=>k .normal s'))
 | b,.seq c d,s,k=>match A.join d with
   | none=>Zdt τ κ φ D run A Y ro b c s (fun e s'=>match e with
     | .normal=>Zdt τ κ φ D run A Y ro b d s' k
     | e=>k e s')
   | some la=>Zp4 (fun y=>Zdt τ κ φ D run A Y ro b d ((head la s y).add la s) k) (fun J=>Zdt τ κ φ D run A Y ro b c s.clr (fun e s'=>match e with
     | .normal=>match back la s s' with
       | some y=>J y
       | none=>False
     | e=>k e (s'.add la s)))
 | b,.cond x c d,s,k=>match evV s.tmps x with
   | .d .bool v=>cond v (Zdt τ κ φ D run A Y ro b c s k) (Zdt τ κ φ D run A Y ro b d s k)
   | _=>False
 | b,.block id c,s,k=>Zdt τ κ φ D run A Y ro id c s (fun e s'=>match e with
   | .exit i=>match Nat.beq i id with
     | true=>k .normal s'
     | false=>k (.exit i) s'
   | e=>k e s')
 | b,.scope c,s,k=>Zdt τ κ φ D run A Y ro b c s (fun e s'=>match e with
   | .goto _=>False
   | e=>k e s')
 | b,.loop c,s,k=>match ghosts (A.gs (1000+b)) s with
   | none=>False
   | some s=>match A.lp b with
     | none=>match A.un b with
       | some n=>unW (fun s k=>Zdt τ κ φ D run A Y ro b c s k) n s k
       | none=>False
     | some la=>match frzVs la.vs s with
       | s0=>match back la s0 s0.clr with
         | none=>False
         | some y0=>Lp (fun y R=>Zdt τ κ φ D run A Y ro b c (head la s0 y) (fun e s'=>match e with
           | .normal=>match back la s0 s' with
             | some y'=>R y'
             | none=>False
           | e=>k e (s'.add la s0))) y0
 | b,.rangeFunc g ps assign body,s,k=>match ro with
   | true=>False
   | false=>match s with
     | ⟨nt, tmps, objs, nx, df, wr, di, mv⟩ => Zro τ φ run (A.call (5000 + b)) ((nx + 1, A) :: Y) (evV tmps g) [.yl (nx + 1)]
      ⟨nt,tmps,(nx+1,.lrec nt tmps ps.toList assign body .ready .no)::(nx,.dfb)::objs,nx+2,.mark nx::df,nt::wr,(nx+1)::nx::di,mv⟩ (fun _ s'=>ZqY (nx+1) k s')
 | _,_,_,_=>False
theorem Zfz (fn : FuncId) (tmps : Array Value) (ps : Array Tmp) (assign body : Code) (w : World) :
 (Instr.enterLoop fn tmps ps assign body (fz none).round).run P w =
  .ok (w.heap.size+1,[{ target:=.collected w.heap.size,args:=#[] }])
   ((w.alloc (.deferred (some []))).alloc (.loop { state:=.ready,pending:=none,fn,tmps,params:=ps,assign,body,defers:=w.heap.size })) :=
 run_enterLoop_outer fn tmps ps assign body
theorem Znt (w:World) (o:Go.Obj):(w.alloc o).heap[w.heap.size]?=some o:=World.alloc_heap_new w o
theorem Zmx {cx : Cx} {s : St} {a : Act} {E : Env} (r : Zcd P cx s a E) (fn : FuncId) (ps : Array Tmp) (assign body : Code) :
 ∃ E2,E2.w=(E.w.alloc (.deferred (some []))).alloc (.loop { state:=.ready,pending:=none,fn,tmps:=a.tmps,params:=ps,assign,body,defers:=E.w.heap.size })∧Ext E E2 []∧E2.loc (s.nx+1)=some { b:=E.w.heap.size+1 } ∧
  Zcd P cx ⟨s.nt,s.tmps,(s.nx+1,.lrec s.nt s.tmps ps.toList assign body .ready .no)::(s.nx,.dfb)::s.objs,s.nx+2,.mark s.nx::s.df,s.nt::s.wr,(s.nx+1)::s.nx::s.di,s.mv⟩
   { a with defers:={ target:=.collected E.w.heap.size,args:=#[] }::a.defers } E2:=by
 have hf0:=r.fresh s.nx (Nat.le_refl _)
 have p1:=Z2.push r.good (w:=E.w.alloc (.deferred (some []))) (l:=s.nx) (L:={ b:=E.w.heap.size }) (o:=.dfb) hf0 (World.grownBy_alloc E.w _ none) (Znt E.w _) (fun _=>Nat.le_refl _)
 have hf1:(E.setL (E.w.alloc (.deferred (some []))) s.nx { b:=E.w.heap.size }).loc (s.nx+1)=none:=by
  rw [Zan _ _ _ (by omega)];exact r.fresh _ (by omega)
 generalize hE1:E.setL (E.w.alloc (.deferred (some []))) s.nx { b:=E.w.heap.size }=E1 at p1 hf1
 have hw1:E1.w=E.w.alloc (.deferred (some [])):=by rw [← hE1];rfl
 have hsz:E1.w.heap.size=E.w.heap.size+1:=by rw [hw1];simp
 have hx1:Ext E E1 []:=p1.2.ext
 have hgr:=World.grownBy_alloc E1.w (.loop { state:=.ready,pending:=none,fn,tmps:=a.tmps,params:=ps,assign,body,defers:=E.w.heap.size }) none
 have hx2:=Zfv p1.1 { b:=E1.w.heap.size } hf1 hgr
 have p2:=Z2.push p1.1 (w:=E1.w.alloc (.loop { state:=.ready,pending:=none,fn,tmps:=a.tmps,params:=ps,assign,body,defers:=E.w.heap.size })) (l:=s.nx+1) (L:={ b:=E1.w.heap.size })
  (o:=.lrec s.nt s.tmps ps.toList assign body .ready .no) hf1 hgr
  ⟨_,Znt E1.w _,r.size,fun t=>((r.rep t).mono hx1).mono hx2,rfl,rfl,rfl,rfl,rfl⟩ (fun _=>Nat.le_refl _)
 refine ⟨_,by rw [← hw1];rfl,?_,by rw [ZK,hsz],p2.1,fun l hl=>?_,(r.step.trans p1.2).trans p2.2,by show cx.E.w.drawn≤(E1.w.alloc _).drawn;rw [hw1];exact r.drawn,r.size,?_,fun t=>((r.rep t).mono hx1).mono hx2⟩
 ·simpa using hx1.trans hx2
 ·have hl:s.nx+2≤l:=hl
  rw [Zan _ _ _ (by omega),← hE1,Zan _ _ _ (by omega)]
  exact r.fresh l (by omega)
 ·exact ⟨_,_,rfl,⟨_,by rw [Zan _ _ _ (by omega),← hE1];exact ZK _ _ _ _,rfl⟩,(r.df.ext hx1).ext hx2⟩
theorem Zpn {l : Nat} {k : Exit → St → Prop} {cx : Cx} {s : St} {a : Act} {E : Env} {b : Nat} {R : ZiC} (h : ZqY l k s) (r : Zcd P cx s a E) (hl : l ∉ s.mv → E.loc l = some { b := b })
 (hk:∀ e s' a' w',Inv s s'→k e s'→Rel P cx s' a' w'→R e a' w'):rangePost (fz none) 0 P b R a (.returned undef) E.w:=by
 obtain ⟨nt,tmps,objs,nx,df,wr,di,mv⟩:=s
 unfold ZqY at h
 simp only at h
 split at h
 ·exact h.elim
 ·rename_i hm
  have hL:=hl (fun hmem=>by rw [Zbd.2 hmem] at hm;cases hm)
  split at h
  ·rename_i nt1 tmps1 ps1 as1 bo1 st j ho
   obtain ⟨K,hK,hat⟩:=r.good.at_ l _ ho
   rw [hL] at hK;cases hK
   obtain ⟨q,q1,q2,q3,q4,q5,q6,q7,q8⟩:=hat
   have hlt:b < E.w.heap.size:=(Array.getElem?_eq_some_iff.1 q1).1
   have hgr:E.w.grownBy (E.w.putObj b (.loop { q with state:=.exhausted })) (some b):=grownBy_putObj' _ _ _
   have hp:=Z2.put r.good (mv:=false) (o':=.dead) (L':={ b:=b }) ho hL hgr (fun b' e=>by cases e;exact ⟨trivial,rfl⟩) (fun _=>rfl) trivial (fun h=>h.elim)
   have hbusy:st≠.busy→q.state≠.busy:=fun h e=>h (q7▸e)
   have hrel:Rel P cx ⟨nt,tmps,(l,.dead)::objs,nx,df,wr,l::di,mv⟩ a (E.w.putObj b (.loop { q with state:=.exhausted })):=by
    refine ⟨_,rfl,hp.1,fun k hk=>?_,r.step.trans hp.2,r.drawn,r.size,r.df.ext hp.2.ext,fun t=>(r.rep t).mono hp.2.ext⟩
    by_cases e:k=l
    ·subst e
     have:=r.fresh k hk
     rw [hL] at this;cases this
    ·rw [Zan _ _ _ e];exact r.fresh k hk
   have hinv:Inv ⟨nt,tmps,objs,nx,df,wr,di,mv⟩ ⟨nt,tmps,(l,.dead)::objs,nx,df,wr,l::di,mv⟩ :=
    ⟨rfl,Nat.le_refl _,fun _ h=>h,fun _ h=>List.mem_cons_of_mem _ h,fun _ h=>h,fun _ _=>rfl,fun k hk=>by
     simp only [List.mem_cons,not_or] at hk
     simp only;rw [Zm,if_neg (Ne.symm hk.1)],fun _=>rfl⟩
   split at h
   ·exact h.elim
   ·rename_i hst
    refine ⟨j.code,_,by rw [← q8];exact run_endLoop q1 (hbusy fun e=>hst e),?_⟩
    cases j with
    | no=>exact hk _ _ _ _ hinv h hrel
    | ret=>exact wpIn_ret (hk _ _ _ _ hinv h hrel)
    | exit i=>exact wpIn_exit (hk _ _ _ _ hinv h hrel)
  ·exact h.elim
end Go.Proofs.YtgpdnmfpgkkgcaaGreatDoor
namespace Go.Proofs.YtgpdnmfpgkkgcaaGreatDoor
open Go
set_option linter.unusedVariables false
variable {P:Program} {τ:Zaj} {κ:Z0} {φ:Nat→Option FX}
theorem Zs5 {r : Option Nat} {cx : Cx} {R : ZiC} {c : Code} {body : St → (Exit → St → Prop) → Prop} {k : Exit → St → Prop}
 (hb:∀ (s:St) (k:Exit→St→Prop) (R:ZiC),body s k→∀ a w,Rel P cx s a w→(∀ e s' a' w',Inv s s'→k e s'→Rel P cx s' a' w'→R e a' w')→c.wpIn (fz r) 0 P R a w) :
 ∀ (n:Nat) (s:St),unW body n s k→∀ a w,Rel P cx s a w→(∀ e s' a' w',Inv s s'→k e s'→Rel P cx s' a' w'→R e a' w')→ZeN (fz r) P c R a w
 | 0,_,h,_,_,_,_=>h.elim
 | n+1,s,h,a,w,hr,hk=>ZeN.round (hb s _ _ h a w hr (fun e s' a' w' hi hq hr'=>by
  cases e with
  | normal=>exact Zs5 hb n s' hq a' w' hr' (fun e s'' a'' w'' hi' hq' hr''=>hk e s'' a'' w'' (hi.trans hi') hq' hr'')
  | _=>exact hk _ s' a' w' hi hq hr'))
theorem Zrg (ops:Array Oper):ops.toList.map some=(List.range ops.size).map (fun i=>ops[i]?):=by
 apply List.ext_getElem?
 intro j
 simp only [List.getElem?_map,Array.getElem?_toList]
 by_cases h:j < ops.size
 ·rw [List.getElem?_range h];simp [h]
 ·rw [List.getElem?_eq_none (by simp;omega),Array.getElem?_eq_none (by omega)];rfl
theorem Zsd (hτ : Za8 P τ) (hκ : Zag P κ) (hφ : ∀ g fi, φ g = some fi → fi.Ok P g) {D : DT} (hD : DOk P D) {run : ZiK} (hrun : Zge P run) {A : An} {Y : List (Nat × An)} {r : Option Nat} {cx : Cx} :
 ∀ (c:Code) (b:Nat) (s:St) (k:Exit→St→Prop) (R:ZiC),Zdt τ κ φ D run A Y r.isSome b c s k→∀ a w,Rel P cx s a w→(∀ e s' a' w',Inv s s'→k e s'→Rel P cx s' a' w'→R e a' w')→c.wpIn (fz r) 0 P R a w:=by
 intro c
 induction c with
 | skip=>intro b s k R h a w hr hk;exact wpIn_skip (hk _ s a w (.refl s) h hr)
 | label l=>intro b s k R h a w hr hk;exact wpIn_label (hk _ s a w (.refl s) h hr)
 | ret=>intro b s k R h a w hr hk;exact wpIn_ret (hk _ s a w (.refl s) h hr)
 | exit i=>intro b s k R h a w hr hk;exact wpIn_exit (hk _ s a w (.refl s) h hr)
 | goto l=>intro b s k R h a w hr hk;exact h.elim
 | refuse l=>intro b s k R h a w hr hk;exact h.elim
 | region id ops dr =>
   intro b s k R h a w hr hk
   simp only [Zdt] at h
   obtain ⟨s1,hi1,hr1,h⟩:=Zcw h hr
   cases dr with
   | false =>
     simp only at h
     refine wpIn_region ?_
     have:=ZmW (Q:=R) hτ hκ (ZuW (r:=r) (cx:=cx) hτ hφ hrun) (is:=List.range ops.size) (Zrg ops) h hr1 (fun s' a' w' hi hq hr'=>hk _ s' a' w' (hi1.trans hi) hq hr')
     exact this
   | true=>exact hD _ id ops s1 _ cx r R (ZuW hτ hφ hrun) h a w hr1 (fun s' a' w' hi hq hr'=>hk _ s' a' w' (hi1.trans hi) hq hr')
 | seq c d ihc ihd =>
   intro b s k R h a w hr hk
   simp only [Zdt] at h
   split at h
   ·refine wpIn_seq (ihc b s _ _ h a w hr (fun e s' a' w' hi hq hr'=>?_))
    cases e with
    | normal=>exact ihd b s' k R hq a' w' hr' (fun e s'' a'' w'' hi' hq' hr''=>hk e s'' a'' w'' (hi.trans hi') hq' hr'')
    | _=>exact hk _ s' a' w' hi hq hr'
   ·rename_i la hla
    refine wpIn_seq (ihc b s.clr _ _ h a w (ZpD hr) (fun e s' a' w' hi hq hr'=>?_))
    have hd:Hd la s s':=(Hd.clr la s).inv hi
    have hmv:∀ l∈s.mv,l∈s'.mv:=fun l hl=>hi.mv l (by rw [ZuY];exact hl)
    cases e with
    | normal =>
      simp only at hq
      split at hq
      ·rename_i y hy
       have hr2:=Zmi hr hd hy hr'
       exact ihd b _ k R hq a' w' (Zmq hr2) (fun e s'' a'' w'' hi' hq' hr''=>hk e s'' a'' w'' ((Zl9 (Hd.head la s y) Zq9).trans hi') hq' hr'')
      ·exact hq.elim
    | _=>exact hk _ _ a' w' (Zl9 hd hmv) hq (Zmq hr')
 | cond x c d ihc ihd =>
   intro b s k R h a w hr hk
   simp only [Zdt] at h
   split at h
   ·rename_i v hv
    obtain ⟨E,rfl,r1⟩:=id hr
    have rx:=Zdy r1.rep x
    rw [hv] at rx
    cases v with
    | true=>exact wpIn_cond rx.bool_inv (ihc b s k R h a _ hr hk)
    | false=>exact wpIn_cond rx.bool_inv (ihd b s k R h a _ hr hk)
   ·exact h.elim
 | block id c ih =>
   intro b s k R h a w hr hk
   simp only [Zdt] at h
   refine wpIn_block (ih id s _ _ h a w hr (fun e s' a' w' hi hq hr'=>?_))
   cases e with
   | exit i =>
     simp only at hq
     simp only [Exit.inBlock]
     split at hq
     ·rename_i e
      rw [if_pos (Nat.eq_of_beq_eq_true e)]
      exact hk _ s' a' w' hi hq hr'
     ·rename_i e
      rw [if_neg (Nat.ne_of_beq_eq_false e)]
      exact hk _ s' a' w' hi hq hr'
   | _=>exact hk _ s' a' w' hi hq hr'
 | scope c ih =>
   intro b s k R h a w hr hk
   simp only [Zdt] at h
   refine ZrY (ih b s _ _ h a w hr (fun e s' a' w' hi hq hr'=>?_))
   cases e with
   | goto l=>exact hq.elim
   | _=>exact hk _ s' a' w' hi hq hr'
 | loop c ih =>
   intro b s k R h a w hr hk
   simp only [Zdt] at h
   split at h
   ·exact h.elim
   ·rename_i sg hsg
    replace hk:∀ e s' a' w',Inv sg s'→k e s'→Rel P cx s' a' w'→R e a' w':=fun e s' a' w' hi=>hk e s' a' w' ((Inv.ghosts hsg).trans hi)
    replace hr:=Zlz hsg a w hr
    split at h
    ·split at h
     ·rename_i n hn
      exact (Zs5 (fun s k R h a w hr hk=>ih b s k R h a w hr hk) n sg h a w hr hk).loop
     ·exact h.elim
    ·rename_i la hla
     have hr0:=ZfQ (P:=P) (cx:=cx) la.vs sg a w hr
     have hi0:=Inv.frzVs la.vs sg
     revert h hr0 hi0
     generalize frzVs la.vs sg=s0
     intro h hr0 hi0
     split at h
     ·exact h.elim
     ·rename_i y0 hy0
      have hfirst:Rel P cx (head la s0 y0) a w:=Zmi hr0 (Hd.clr la s0) hy0 (ZpD hr0)
      refine ZeN.loop (h (fun y=>∀ a w,Rel P cx (head la s0 y) a w→ZeN (fz r) P c R a w) (fun y hy a w hr=>ZeN.round (ih b _ _ _ hy a w hr (fun e s' a' w' hi hq hr'=>?_))) a w hfirst)
      have hd:Hd la s0 s':=(Hd.head la s0 y).inv hi
      have hmv:∀ l∈s0.mv,l∈s'.mv:=fun l hl=>hi.mv l (Zq9 l hl)
      cases e with
      | normal =>
        simp only at hq
        split at hq
        ·rename_i y' hy'
         exact hq a' w' (Zmi hr0 hd hy' hr')
        ·exact hq.elim
      | _=>exact hk _ _ a' w' (hi0.trans (Zl9 hd hmv)) hq (Zmq hr')
 | rangeFunc g ps assign body =>
   intro b s k R h a w hr hk
   simp only [Zdt] at h
   split at h
   ·exact h.elim
   ·rename_i hro
    have hrn:r=none:=by cases r with | none=>rfl | some _=>cases hro
    subst hrn
    obtain ⟨nt,tmps,objs,nx,df,wr,di,mv⟩:=s
    simp only at h
    obtain ⟨E,rfl,r1⟩:=hr
    refine wpIn_rangeFunc (fun fn _=>?_)
    obtain ⟨E2,e1,e2,e3,r2⟩:=Zmx r1 fn ps assign body
    have rg:Rep P E2 (evV tmps g) (a.eval g):=(Zdy r1.rep g).mono e2
    have ry:Za6 P E2 [.yl (nx+1)] [.func (.yield (E.w.heap.size+1)) #[] #[]]:=.cons (.yl e3) .nil
    obtain ⟨gf,p,q,f1,f2,f3⟩:=ZnK hτ hφ hrun h r2 rg ry
    rw [e1] at f3
    refine ⟨E.w.heap.size+1,_,_,⟨.fn (.func gf) q,p++#[.func (.yield (E.w.heap.size+1)) #[] #[]]⟩,(E.w.alloc (.deferred (some []))).alloc (.loop { state:=.ready,pending:=none,fn,tmps:=a.tmps,params:=ps,assign,body,defers:=E.w.heap.size }),
     gf,p++#[.func (.yield (E.w.heap.size+1)) #[] #[]]++q,(E.w.alloc (.deferred (some []))).alloc (.loop { state:=.ready,pending:=none,fn,tmps:=a.tmps,params:=ps,assign,body,defers:=E.w.heap.size }),
     Zfz fn a.tmps ps assign body E.w,?_,fun _ _=>trivial,?_,fun h=>by simp [fz,Fence.wide] at h,?_⟩
    ·show (Deferred.ofValue (a.eval g) _).run P _=_
     rw [f1]
     simp [rangeCall,Deferred.ofValue,show ∀ c,a.eval (.const c)=c from fun _=>rfl]
    ·simp only [invoke]
     exact ZdX f2 _ _
    ·have f3':=fun R hR=>f3 R hR
     simp only [List.toArray] at f3'
     refine f3' _ (fun u v s3 E' hi hq hr' _ hx=>?_)
     refine Zpn hq hr' (fun hm=>?_) (fun e s' a' w' hi' hq' hr''=>hk e s' a' w' ?_ hq' hr'')
     ·exact hx _ _ hm e3
     ·refine Inv.trans ?_ (hi.trans hi')
      exact ⟨rfl,by simp only;omega,fun _ h=>List.mem_cons_of_mem _ h,fun _ h=>List.mem_cons_of_mem _ (List.mem_cons_of_mem _ h),fun _ h=>h,fun _ _=>rfl,fun k hk=>by
       simp only [List.mem_cons,not_or] at hk
       simp only;rw [Zm,if_neg (Ne.symm hk.1),Zm,if_neg (Ne.symm hk.2.1)],fun hn=>by simp at hn⟩
def ZvK (τ:Zaj) (κ:Z0) (φ:Nat→Option FX) (D:DT):Nat→ZiK
 | 0,_,_,_,_,_,_=>False
 | n+1,A,Y,ro,c,s,k=>Zdt τ κ φ D (ZvK τ κ φ D n) A Y ro 0 c s k
theorem Zre (hτ:Za8 P τ) (hκ:Zag P κ) (hφ:∀ g fi,φ g=some fi→fi.Ok P g) {D:DT} (hD:DOk P D):∀ n,Zge P (ZvK τ κ φ D n)
 | 0=>fun _ _ _ _ _ _ _ _ h=>h.elim
 | n+1=>fun A Y r c s k cx R h a w hr hk=>Zsd hτ hκ hφ hD (Zre hτ hκ hφ hD n) c 0 s k R h a w hr hk
end Go.Proofs.YtgpdnmfpgkkgcaaGreatDoor
namespace Go.Proofs.YtgpdnmfpgkkgcaaGreatDoor
open Go
set_option linter.unusedVariables false
variable {P:Program} {τ:Zaj} {κ:Z0} {φ:Nat→Option FX}
def fnW (τ:Zaj) (run:ZiK) (A:An) (fi:FI) (ps:List PS) (rs:List Ty) (xs:ZbR ps) (Q:Za4 rs→Prop):Prop:=match fi with
 | ⟨nt,res,code⟩=>match Zjm ps xs with
   | vs=>match Nat.ble vs.length nt with
     | false=>False
     | true=>run A [] false code ⟨nt,ZcE 0 vs,[],0,[],[],[],[]⟩ (fun e s=>match ZlD e with
       | false=>False
       | true=>match ZgG τ res s with
         | none=>False
         | some (v,s2)=>match ZsN 9 s2.objs [v] with
           | some ([v'],_)=>match ZlY rs v' with
             | some r=>Q r
             | none=>False
           | _=>False)
def fnV (τ:Zaj) (run:ZiK) (A:An) (fi:FI) (ps:List PS) (xs:ZbR ps) (Q:V→Prop):Prop:=match fi with
 | ⟨nt,res,code⟩=>match Zjm ps xs with
   | vs=>match Nat.ble vs.length nt with
     | false=>False
     | true=>run A [] false code ⟨nt,ZcE 0 vs,[],0,[],[],[],[]⟩ (fun e s=>match ZlD e with
       | false=>False
       | true=>match ZgG τ res s with
         | none=>False
         | some (v,s2)=>match ZsN 9 s2.objs [v] with
           | some ([v'],_)=>Q v'
           | _=>False)
theorem Zhb {w:World} {S:Nat→Prop} (hS:Sok P w S):Z2 P ⟨w,S,fun _=>none⟩ [] :=
 ⟨fun l o h=>(by cases h),fun b h=>(by obtain ⟨l,o,L,h,_⟩:=h;cases h),hS.lt,hS.tab,fun i j o o' L L' h=>(by cases h)⟩
theorem Zlg (hτ : Za8 P τ) {run : ZiK} (hrun : Zge P run) {A : An} {f : FuncId} {fi : FI} (hok : fi.Ok P f) {ps : List PS} {rs : List Ty} {xs : ZbR ps} {Q : Za4 rs → Prop} (h : fnW τ run A fi ps rs xs Q) {w : World} {S : Nat → Prop}
 (hS:Sok P w S) {args:Array Value} (ra:Za6 P ⟨w,S,fun _=>none⟩ (Zjm ps xs) args.toList) :
 Calls P f args w fun e w2=>∃ v S2 r,e=.returned v∧ZgY w S w2 S2∧Rep P ⟨w2,S2,fun _=>none⟩ (Zbr rs r) v∧Q r:=by
 obtain ⟨nt,res,code⟩:=fi
 obtain ⟨fn,h1,h2,h3,h4,h5⟩:=id hok
 unfold fnW at h
 simp only at h h3 h4
 split at h
 ·exact h.elim
 ·rename_i hlen
  have g0:Z2 P ⟨w,S,fun _=>none⟩ []:=Zhb hS
  have hrel:=ZfH (nx:=0) (nt:=nt) g0 (fun _ _=>rfl) ra (Nat.le_of_ble_eq_true hlen)
  have hin:CallsIn (fz none) 0 P f args w fun e w2=>∃ v S2 r,e=.returned v∧ZgY w S w2 S2∧Rep P ⟨w2,S2,fun _=>none⟩ (Zbr rs r) v∧Q r:=by
   refine callsIn_of_wp_marks h1 h2 trivial ?_
   rw [h3]
   refine hrun A [] none code _ _ ⟨⟨w,S,fun _=>none⟩,[]⟩ _ h _ w hrel (fun e s1 a1 w1 hi hk hr1=>?_)
   have fin:ZlD e=true→LeavesInM (fz none) 0 P fn a1.tmps (fun e w2=>∃ v S2 r,e=.returned v∧ZgY w S w2 S2∧Rep P ⟨w2,S2,fun _=>none⟩ (Zbr rs r) v∧Q r) a1.defers .returning w1:=fun he=>by
    rw [he] at hk
    simp only at hk
    split at hk
    ·exact hk.elim
    ·rename_i v s2 hf
     split at hk
     ·rename_i v' ks hl
      split at hk
      ·rename_i r hr
       refine Zg0 hτ (fi:=⟨nt,res,code⟩) h4 hf hr1 (fun u E' haft hu=>?_)
       have hno:∀ b,¬ Zdp ⟨w,S,fun _=>none⟩ [] b:=fun b h=>(by obtain ⟨l,o,L,h,_⟩:=h;cases h)
       obtain ⟨S',k1,k2,_,k4,k5,k6⟩:=ZkI hl haft.good (.cons hu .nil)
       have st:=haft.step
       refine ⟨u,S',r,rfl,⟨haft.drawn,st.os,st.tape,st.output,st.size,fun b hb=>st.frame b hb (hno b),fun b hb=>k1 b (st.ext.S b hb).1,fun b hb=>?_,k2⟩,Zl0 (Zin hr k5.head),hk⟩
       rcases k6 b hb with h | h
       ·rcases st.st b h with h | h | h
        ·exact .inl h
        ·exact .inr h
        ·exact absurd h (hno b)
       ·rcases st.own b h with h | h
        ·exact .inr h
        ·exact absurd h (hno b)
      ·exact hk.elim
     ·exact hk.elim
   cases e with
   | normal=>exact fin rfl
   | ret=>exact fin rfl
   | _=>exact hk.elim
  exact callsIn_wide.1 hin
theorem ZqF (hτ : Za8 P τ) {run : ZiK} (hrun : Zge P run) {A : An} {f : FuncId} {fi : FI} (hok : fi.Ok P f) {ps : List PS} {xs : ZbR ps} {Q : V → Prop} (h : fnV τ run A fi ps xs Q) {w : World} {S : Nat → Prop}
 (hS:Sok P w S) {args:Array Value} (ra:Za6 P ⟨w,S,fun _=>none⟩ (Zjm ps xs) args.toList) :
 Calls P f args w fun e w2=>∃ v S2 r,e=.returned v∧ZgY w S w2 S2∧Rep P ⟨w2,S2,fun _=>none⟩ r v∧Q r:=by
 obtain ⟨nt,res,code⟩:=fi
 obtain ⟨fn,h1,h2,h3,h4,h5⟩:=id hok
 unfold fnV at h
 simp only at h h3 h4
 split at h
 ·exact h.elim
 ·rename_i hlen
  have g0:Z2 P ⟨w,S,fun _=>none⟩ []:=Zhb hS
  have hrel:=ZfH (nx:=0) (nt:=nt) g0 (fun _ _=>rfl) ra (Nat.le_of_ble_eq_true hlen)
  have hin:CallsIn (fz none) 0 P f args w fun e w2=>∃ v S2 r,e=.returned v∧ZgY w S w2 S2∧Rep P ⟨w2,S2,fun _=>none⟩ r v∧Q r:=by
   refine callsIn_of_wp_marks h1 h2 trivial ?_
   rw [h3]
   refine hrun A [] none code _ _ ⟨⟨w,S,fun _=>none⟩,[]⟩ _ h _ w hrel (fun e s1 a1 w1 hi hk hr1=>?_)
   have fin:ZlD e=true→LeavesInM (fz none) 0 P fn a1.tmps (fun e w2=>∃ v S2 r,e=.returned v∧ZgY w S w2 S2∧Rep P ⟨w2,S2,fun _=>none⟩ r v∧Q r) a1.defers .returning w1:=fun he=>by
    rw [he] at hk
    simp only at hk
    split at hk
    ·exact hk.elim
    ·rename_i v s2 hf
     split at hk
     ·rename_i v' ks hl
      ·refine Zg0 hτ (fi:=⟨nt,res,code⟩) h4 hf hr1 (fun u E' haft hu=>?_)
       have hno:∀ b,¬ Zdp ⟨w,S,fun _=>none⟩ [] b:=fun b h=>(by obtain ⟨l,o,L,h,_⟩:=h;cases h)
       obtain ⟨S',k1,k2,_,k4,k5,k6⟩:=ZkI hl haft.good (.cons hu .nil)
       have st:=haft.step
       refine ⟨u,S',v',rfl,⟨haft.drawn,st.os,st.tape,st.output,st.size,fun b hb=>st.frame b hb (hno b),fun b hb=>k1 b (st.ext.S b hb).1,fun b hb=>?_,k2⟩,ZiO (E:=⟨E'.w,S',E'.loc⟩) (E':=⟨E'.w,S',fun _=>none⟩) (fun b hb=>⟨hb,rfl⟩) k5.head (by simp only [fkL] at k4;split at k4<;>first | (cases k4;done) | assumption),hk⟩
       rcases k6 b hb with h | h
       ·rcases st.st b h with h | h | h
        ·exact .inl h
        ·exact .inr h
        ·exact absurd h (hno b)
       ·rcases st.own b h with h | h
        ·exact .inr h
        ·exact absurd h (hno b)
     ·exact hk.elim
   cases e with
   | normal=>exact fin rfl
   | ret=>exact fin rfl
   | _=>exact hk.elim
  exact callsIn_wide.1 hin
def ZlM:(T:Ty)→T.den→Prop
 | .sl t,l=>List.length (α:=t.den) l≤9223372036854775807∧∀ x∈(l:List t.den),ZlM t x
 | .pair a b,x=>ZlM a x.1∧ZlM b x.2
 | _,_=>True
def Zmm:(ps:List PS)→ZbR ps→Prop
 | [],_=>True
 | .d T::l,x=>ZlM T x.1∧Zmm l x.2
 | .e T::l,x=>ZlM T x.1∧Zmm l x.2
 | .f _ _::l,x=>Zmm l x.2
theorem Zeg {w:World} {S:Nat→Prop}:∀ {T:Ty} {x:T.den} {cs:List Value},Zba w S T x cs→ZlM T x
 | .int _,_,_,_=>trivial
 | .bool,_,_,_=>trivial
 | .str,_,_,_=>trivial
 | .unit,_,_,_=>trivial
 | .pair a b,x,cs,⟨c1,c2,_,h1,h2⟩=>⟨Zeg h1,Zeg h2⟩
 | .sl t,l,cs,⟨a,c,_,hc,hl⟩=>⟨Nat.le_trans hc.1 hc.2,fun x hx=>by
  obtain ⟨i,hi⟩:=List.getElem?_of_mem hx
  obtain ⟨b,off,_,_,h⟩:=hl (fun e=>by subst e;simp at hi)
  obtain ⟨cs',h1,_⟩:=h i x hi
  exact Zeg h1⟩
theorem Zg2 {E:Env}:∀ {T:Ty} {x:T.den},(∀ v∈flat T x,∃ c,Rep P E v c)→ZlM T x
 | .int _,_,_=>trivial
 | .bool,_,_=>trivial
 | .str,_,_=>trivial
 | .unit,_,_=>trivial
 | .pair a b,x,h=>⟨Zg2 fun v hv=>h v (List.mem_append_left _ hv),Zg2 fun v hv=>h v (List.mem_append_right _ hv)⟩
 | .sl t,l,h=>by
   obtain ⟨c,hc⟩:=h (.d (.sl t) l) (by simp [flat])
   exact Zeg (T:=.sl t) (Zgy hc)
theorem ZrV {E:Env} {vs:List V} {cs:List Value} (r:Za6 P E vs cs) {v:V} (hv:v∈vs):∃ c,Rep P E v c:=by
 obtain ⟨i,hi⟩:=List.getElem?_of_mem hv
 have hlt:=(List.getElem?_eq_some_iff.1 hi).1
 have:=r.2 i hlt
 rw [List.getD_eq_getElem?_getD,hi] at this
 exact ⟨_,this⟩
theorem ZtN {E:Env}:∀ {T:Ty} {x:T.den} {c:Value},Rep P E (Zo7 T x) c→ZlM T x
 | .pair a b,x,c,r=>by
   obtain ⟨ca,rfl,rs⟩:=Zpu (show Rep P E (.agg (flat (.pair a b) x)) c from r)
   exact Zg2 fun v hv=>ZrV rs hv
 | .int _,_,_,_=>trivial
 | .bool,_,_,_=>trivial
 | .str,_,_,_=>trivial
 | .unit,_,_,_=>trivial
 | .sl t,l,c,r=>Zeg (T:=.sl t) (Zgy r)
theorem Zfo {E:Env}:∀ {ps:List PS} {xs:ZbR ps} {cs:List Value},Za6 P E (Zjm ps xs) cs→Zmm ps xs
 | [],_,_,_=>trivial
 | .d T::l,x,c::cs,r=>⟨ZtN r.head,Zfo r.tail⟩
 | .d T::l,x,[],r=>absurd r.1 (by simp [Zjm])
 | .e T::l,x,c::cs,r=>by
   refine ⟨?_,Zfo r.tail⟩
   have h:Rep P E (.er (flat T x.1)) c:=r.head
   cases h with
   | er f _ _ hr =>
     refine Zg2 (P:=P) (E:=E) fun v hv=>?_
     obtain ⟨i,hi⟩:=List.getElem?_of_mem hv
     have hlt:=(List.getElem?_eq_some_iff.1 hi).1
     have:=hr i hlt
     rw [List.getD_eq_getElem?_getD,hi] at this
     exact ⟨_,this⟩
 | .e T::l,x,[],r=>absurd r.1 (by simp [Zjm])
 | .f _ _::l,x,c::cs,r=>Zfo (ps:=l) r.tail
 | .f _ _::l,x,[],r=>absurd r.1 (by simp [Zjm])
theorem Zsj (hτ : Za8 P τ) {run : ZiK} (hrun : Zge P run) {A : An} {f : FuncId} {fi : FI} (hok : fi.Ok P f) {ps : List PS} {rs : List Ty} {pre : Option (ZbR ps → Prop)} {fn : ZbR ps → Za4 rs}
 (h:∀ xs,Zmm ps xs→okP (Con.ob ⟨ps,pre,fun xs=>Zbr rs (fn xs)⟩ xs)→fnW τ run A fi ps rs xs (fun r=>r=fn xs)):Zak P f ⟨ps,pre,fun xs=>Zbr rs (fn xs)⟩ :=
 ⟨hok.call,fun w S xs hS hp args ra=>Calls.mono (Zlg hτ hrun hok (h xs (Zfo ra) hp) hS ra) fun e w2 ⟨v,S2,r,h1,h2,h3,h4⟩=>⟨v,S2,h1,h2,by subst h4;exact h3⟩⟩
theorem ZlN (hτ : Za8 P τ) {run : ZiK} (hrun : Zge P run) {A : An} {f : FuncId} {fi : FI} (hok : fi.Ok P f) {c : Con}
 (h:∀ xs,Zmm c.ps xs→okP (c.ob xs)→fnV τ run A fi c.ps xs (fun r=>r=c.res xs)):Zak P f c :=
 ⟨hok.call,fun w S xs hS hp args ra=>Calls.mono (ZqF hτ hrun hok (h xs (Zfo ra) hp) hS ra) fun e w2 ⟨v,S2,r,h1,h2,h3,h4⟩=>⟨v,S2,h1,h2,by subst h4;exact h3⟩⟩
end Go.Proofs.YtgpdnmfpgkkgcaaGreatDoor
namespace Go.Proofs.YtgpdnmfpgkkgcaaGreatDoor
open Go
set_option linter.unusedVariables false
variable {P:Program} {τ:Zaj} {κ:Z0} {φ:Nat→Option FX}
def Zv4 (n:Nat) (l:List Nat):List Nat:=match Zdq n l with
 | true=>l
 | false=>n::l
def Zh2:List Nat→List Nat→List Nat
 | [],l=>l
 | n::r,l=>Zh2 r (Zv4 n l)
def Zes (i:Nat) (T:List (Nat×List Nat)):List Nat:=match Zqe i T with
 | some l=>l
 | none=>[]
def Zpk (T:List (Nat×List Nat)):List Edge→List Nat
 | []=>[]
 | e::r=>match Region.binds .any e with
   | true=>Zv4 e.on (Zh2 (Zes e.on T) (Zpk T r))
   | false=>Zpk T r
def ZuG:Nat→List Oper→List (Nat×List Nat)→List (Nat×List Nat)
 | _,[],T=>T
 | i,⟨_,_,_,_,af,_⟩::r,T=>match Zpk T af.toList with
   | l=>ZuG (i+1) r ((i,l)::T)
def Zth (T:List (Nat×List Nat)) (j:Nat):List Edge→Bool
 | []=>false
 | e::r=>match Region.binds .any e with
   | true=>match Nat.beq e.on j with
     | true=>true
     | false=>match Zdq j (Zes e.on T) with
       | true=>true
       | false=>Zth T j r
   | false=>Zth T j r
def Zuf (T:List (Nat×List Nat)) (af:List Edge) (i:Nat):List Nat→Bool
 | []=>true
 | j::r=>match Zth T j af with
   | true=>match Nat.blt j i with
     | true=>Zuf T af i r
     | false=>false
   | false=>false
def inE (ps:List Nat):List Edge→Bool
 | []=>true
 | e::r=>match Region.binds .any e with
   | true=>match Zdq e.on ps with
     | true=>inE ps r
     | false=>false
   | false=>inE ps r
def Zk4 (T:List (Nat×List Nat)):Nat→List Oper→Bool
 | _,[]=>true
 | i,⟨_,_,_,_,af,_⟩::r=>match Zes i T with
   | ps=>match inE ps af.toList with
     | true=>match Zuf T af.toList i ps with
       | true=>Zk4 T (i+1) r
       | false=>false
     | false=>false
theorem ZmH {ps:List Nat}:∀ {l:List Edge},inE ps l=true→∀ e∈l,Region.binds .any e=true→e.on∈ps
 | [],_,e,h,_=>by simp at h
 | e::r,h,e',he,hb=>by
   simp only [inE] at h
   split at h
   ·split at h
    ·rename_i h1
     rcases List.mem_cons.1 he with rfl | he
     ·exact Zbd.1 h1
     ·exact ZmH h e' he hb
    ·cases h
   ·rename_i h0
    rcases List.mem_cons.1 he with rfl | he
    ·rw [hb] at h0;cases h0
    ·exact ZmH h e' he hb
theorem Zns {T:List (Nat×List Nat)} {j:Nat}:∀ {l:List Edge},Zth T j l=true→∃ e∈l,Region.binds .any e=true∧(e.on=j∨j∈Zes e.on T)
 | [],h=>by cases h
 | e::r,h=>by
   simp only [Zth] at h
   have rec':Zth T j r=true→∃ e'∈e::r,Region.binds .any e'=true∧(e'.on=j∨j∈Zes e'.on T):=fun h=>by
    obtain ⟨e',h1,h2⟩:=Zns h;exact ⟨e',List.mem_cons_of_mem _ h1,h2⟩
   split at h
   ·rename_i hb
    split at h
    ·rename_i h1;exact ⟨e,by simp,hb,.inl (Nat.eq_of_beq_eq_true h1)⟩
    ·split at h
     ·rename_i h1;exact ⟨e,by simp,hb,.inr (Zbd.1 h1)⟩
     ·exact rec' h
   ·exact rec' h
theorem Zkw {T:List (Nat×List Nat)} {af:List Edge} {i:Nat}:∀ {l:List Nat},Zuf T af i l=true→∀ j∈l,Zth T j af=true∧j < i
 | [],_,j,h=>by simp at h
 | k::r,h,j,hj=>by
   simp only [Zuf] at h
   split at h
   ·rename_i h1
    split at h
    ·rename_i h2
     rcases List.mem_cons.1 hj with rfl | hj
     ·exact ⟨h1,Nat.le_of_ble_eq_true h2⟩
     ·exact Zkw h j hj
    ·cases h
   ·cases h
structure PT (ops:Array Oper) (T:List (Nat×List Nat)):Prop where
 lt:∀ i j,i < ops.size→j∈Zes i T→j < i
 edge:∀ i o e,ops[i]?=some o→e∈o.after→Region.binds .any e=true→e.on∈Zes i T
 back:∀ i o j,ops[i]?=some o→j∈Zes i T→∃ e∈o.after,Region.binds .any e=true∧(e.on=j∨j∈Zes e.on T)
theorem Zi0 {T:List (Nat×List Nat)}:∀ {l:List Oper} {i j:Nat} {o:Oper},Zk4 T i l=true→l[j]?=some o→inE (Zes (i+j) T) o.after.toList=true∧Zuf T o.after.toList (i+j) (Zes (i+j) T)=true
 | [],_,_,_,_,h=>by simp at h
 | ⟨_,_,_,_,af,_⟩::r,i,j,o,h,hj=>by
   simp only [Zk4] at h
   split at h
   ·rename_i h1
    split at h
    ·rename_i h2
     cases j with
     | zero=>simp at hj;subst hj;exact ⟨h1,h2⟩
     | succ j =>
       have:=Zi0 (j:=j) h (by simpa using hj)
       rw [show i+1+j=i+(j+1) from by omega] at this
       exact this
    ·cases h
   ·cases h
theorem PT.of {ops:Array Oper} {T:List (Nat×List Nat)} (h:Zk4 T 0 ops.toList=true):PT ops T:=by
 have get:∀ i o,ops[i]?=some o→inE (Zes i T) o.after.toList=true∧Zuf T o.after.toList i (Zes i T)=true:=fun i o hi=>by
  have:=Zi0 (i:=0) (j:=i) h (by simpa using hi)
  simpa using this
 refine ⟨fun i j hi hj=>?_,fun i o e hi he hb=>ZmH (get i o hi).1 e (Array.mem_toList_iff.2 he) hb,fun i o j hi hj=>?_⟩
 ·exact (Zkw (get i ops[i] (Array.getElem?_eq_getElem hi)).2 j hj).2
 ·obtain ⟨e,h1,h2,h3⟩:=Zns (Zkw (get i o hi).2 j hj).1
  exact ⟨e,Array.mem_toList_iff.1 h1,h2,h3⟩
structure Rc where
 i:Nat
 dst:Option Nat
 v:V
 ed:Zaf
 ks:List Nat
def ZlJ:Zaf→List Nat
 | []=>[]
 | (l,_)::r=>l::ZlJ r
theorem Zcf {l:Nat}:∀ {a b:Zaf},Zs l (a++b)=(match Zs l a with | some o=>some o | none=>Zs l b)
 | [],_=>rfl
 | (k,o)::r,b=>by
   rw [List.cons_append,Zm,Zm]
   split
   ·rfl
   ·exact Zcf
theorem ZdR {l:Nat} {o:Obj}:∀ {a:Zaf},Zs l a=some o→l∈ZlJ a
 | [],h=>by cases h
 | (k,p)::r,h=>by
   rw [Zm] at h
   split at h
   ·rename_i e;simp [ZlJ,e]
   ·exact List.mem_cons_of_mem _ (ZdR h)
def Rc.app (r:Rc) (s:St):St:=match r,s with
 | ⟨_, dst, v, ed, _⟩, ⟨nt, tmps, objs, nx, df, wr, di, mv⟩ => ⟨nt, (match dst with
  | some d=>(d,v)::tmps
  | none=>tmps),ed++objs,nx,df,(match dst with
  | some d=>d::wr
  | none=>wr),ZlJ ed++di,mv⟩
def replay (p:Nat→Bool):List Rc→St→St
 | [],s=>s
 | r::rs,s=>replay p rs (if p r.i then r.app s else s)
def ZdL (p:Nat→Bool) (t:Nat):List Rc→Option V
 | []=>none
 | r::rs=>match ZdL p t rs with
   | some v=>some v
   | none=>if p r.i=true∧r.dst=some t then some r.v else none
def Zdn (p:Nat→Bool) (l:Nat):List Rc→Option Obj
 | []=>none
 | r::rs=>match Zdn p l rs with
   | some o=>some o
   | none=>if p r.i=true then Zs l r.ed else none
theorem ZjO {r:Rc} {s:St} {t:Nat}:Zbb t (r.app s).tmps=if r.dst=some t then r.v else Zbb t s.tmps:=by
 obtain ⟨i,dst,v,ed,ks⟩:=r
 cases s
 cases dst with
 | none=>simp [Rc.app]
 | some d=>simp [Rc.app,Z9]
theorem ZnR {r:Rc} {s:St} {l:Nat}:Zs l (r.app s).objs=(match Zs l r.ed with | some o=>some o | none=>Zs l s.objs):=by
 obtain ⟨i,dst,v,ed,ks⟩:=r
 cases s
 simp only [Rc.app,Zcf]
theorem Zcz {p:Nat→Bool} {t:Nat}:∀ {R:List Rc} {s:St},Zbb t (replay p R s).tmps=(match ZdL p t R with | some v=>v | none=>Zbb t s.tmps)
 | [],_=>rfl
 | r::rs,s=>by
   simp only [replay,ZdL]
   rw [Zcz (R:=rs)]
   cases h:ZdL p t rs with
   | some v=>rfl
   | none =>
     simp only
     by_cases hp:p r.i=true
     ·rw [if_pos hp,ZjO]
      by_cases hd:r.dst=some t
      ·rw [if_pos hd,if_pos ⟨hp,hd⟩]
      ·rw [if_neg hd,if_neg (fun h=>hd h.2)]
     ·rw [if_neg hp,if_neg (fun h=>hp h.1)]
theorem ZcP {p:Nat→Bool} {l:Nat}:∀ {R:List Rc} {s:St},Zs l (replay p R s).objs=(match Zdn p l R with | some o=>some o | none=>Zs l s.objs)
 | [],_=>rfl
 | r::rs,s=>by
   simp only [replay,Zdn]
   rw [ZcP (R:=rs)]
   cases h:Zdn p l rs with
   | some v=>rfl
   | none =>
     simp only
     by_cases hp:p r.i=true
     ·rw [if_pos hp,if_pos hp,ZnR]
     ·rw [if_neg hp,if_neg hp]
theorem Zdz {p:Nat→Bool}:∀ {R:List Rc} {s:St},(replay p R s).nt=s.nt∧(replay p R s).nx=s.nx∧(replay p R s).df=s.df∧(replay p R s).mv=s.mv
 | [],_=>⟨rfl,rfl,rfl,rfl⟩
 | r::rs,s=>by
   have h:=Zdz (p:=p) (R:=rs) (s:=if p r.i then r.app s else s)
   have e:(if p r.i then r.app s else s).nt=s.nt∧(if p r.i then r.app s else s).nx=s.nx∧(if p r.i then r.app s else s).df=s.df∧(if p r.i then r.app s else s).mv=s.mv:=by
    split
    ·cases s;exact ⟨rfl,rfl,rfl,rfl⟩
    ·exact ⟨rfl,rfl,rfl,rfl⟩
   exact ⟨h.1.trans e.1,h.2.1.trans e.2.1,h.2.2.1.trans e.2.2.1,h.2.2.2.trans e.2.2.2⟩
theorem Zfe {p q:Nat→Bool} {l:Nat}:∀ {R:List Rc},(∀ r∈R,∀ o,Zs l r.ed=some o→p r.i=q r.i)→Zdn p l R=Zdn q l R
 | [],_=>rfl
 | r::rs,h=>by
   simp only [Zdn]
   rw [Zfe (R:=rs) (fun r' hr'=>h r' (List.mem_cons_of_mem _ hr'))]
   have h0:=h r (by simp)
   cases hed:Zs l r.ed with
   | none=>simp
   | some x=>rw [h0 x hed]
theorem Zfb {p q:Nat→Bool} {t:Nat}:∀ {R:List Rc},(∀ r∈R,r.dst=some t→p r.i=q r.i)→ZdL p t R=ZdL q t R
 | [],_=>rfl
 | r::rs,h=>by
   simp only [ZdL]
   rw [Zfb (R:=rs) (fun r' hr'=>h r' (List.mem_cons_of_mem _ hr'))]
   by_cases hk:r.dst=some t
   ·rw [h r (by simp) hk]
   ·rw [if_neg (fun h=>hk h.2),if_neg (fun h=>hk h.2)]
theorem Rel.congr {cx:Cx} {s s':St} {a:Act} {E:Env} (r:Zcd P cx s a E) (ht:∀ t,Zbb t s'.tmps=Zbb t s.tmps) (ho:∀ l,Zs l s'.objs=Zs l s.objs) (hnt:s'.nt=s.nt) (hdf:s'.df=s.df) (hmv:s'.mv=s.mv) (hf:∀ l,s'.nx≤l→E.loc l=none):Zcd P cx s' a E:=by
 have tr:∀ l o,Zs l s'.objs=some o→∃ o1 L,Zs l s.objs=some o1∧E.loc l=some L∧E.loc l=some L∧(∀ L,o.has L→o1.has L)∧(ZaM P E L o1→ZaM P E L o):=fun l o h=>by
  rw [ho] at h
  obtain ⟨L,hL,_⟩:=r.good.at_ l o h
  exact ⟨o,L,h,hL,hL,fun _ h=>h,fun h=>h⟩
 exact ⟨r.good.sub rfl rfl tr,hf,by rw [hmv];exact r.step.swap tr (fun l hl=>by rw [ho] at hl;exact hl),r.drawn,by rw [hnt];exact r.size,by rw [hdf];exact r.df,fun t=>by rw [ht];exact r.rep t⟩
end Go.Proofs.YtgpdnmfpgkkgcaaGreatDoor
namespace Go.Proofs.YtgpdnmfpgkkgcaaGreatDoor
open Go
set_option linter.unusedVariables false
variable {P:Program} {τ:Zaj} {κ:Z0} {φ:Nat→Option FX}
mutual
def V.ks:V→List Nat
 | .fn _ a b=>Zh2 (ksL a) (ksL b)
 | .agg cs=>ksL cs
 | .tup cs=>ksL cs
 | .er cs=>ksL cs
 | .when _ v=>V.ks v
 | .opt _ v=>V.ks v
 | .ref k _=>[k]
 | .rref k _ _=>[k]
 | .osl k=>[k]
 | .osp k _ _=>[k]
 | .map k=>[k]
 | .yl k=>[k]
 | .bsl k _=>[k]
 | _=>[]
def ksL:List V→List Nat
 | []=>[]
 | v::r=>Zh2 (V.ks v) (ksL r)
end
def ZmM (objs:Zaf):List Nat→Zaf
 | []=>[]
 | l::r=>match Zs l objs with
   | some o=>(l,o)::ZmM objs r
   | none=>ZmM objs r
def Zkd (objs:Zaf):List Nat→List Nat
 | []=>[]
 | l::r=>match Zs l objs with
   | some (.box cs) | some (.vrow _ _ cs _)=>Zh2 (ksL cs) (Zkd objs r)
   | _=>Zkd objs r
def Zub (op:Op) (objs:Zaf) (ks:List Nat):List Nat:=match op with
 | .load .. | .fieldAddr .. | .indexAddr ..=>ks
 | _=>match Zh2 (Zkd objs ks) ks with
   | k1=>Zh2 (Zkd objs k1) k1
theorem Zix {objs:Zaf} {l:Nat} {o:Obj}:∀ {ks:List Nat},Zs l (ZmM objs ks)=some o→l∈ks∧Zs l objs=some o
 | [],h=>by cases h
 | k::r,h=>by
   simp only [ZmM] at h
   split at h
   ·rename_i p hp
    rw [Zm] at h
    split at h
    ·rename_i e;subst e;cases h;exact ⟨by simp,hp⟩
    ·have:=Zix h;exact ⟨List.mem_cons_of_mem _ this.1,this.2⟩
   ·have:=Zix h;exact ⟨List.mem_cons_of_mem _ this.1,this.2⟩
def Zpp (T:List (Nat×List Nat)) (ds:List (Nat×Nat)) (i:Nat) (base cur:List (Nat×V)) (t:Nat):V:=match Zqe t ds with
 | none=>Zbb t base
 | some j=>match Zdq j (Zes i T) with
   | true=>Zbb t cur
   | false=>match Nat.beq j i with
     | true=>Zbb t base
     | false=>match Zdq i (Zes j T) with
       | true=>Zbb t base
       | false=>.any
def Zml (T:List (Nat×List Nat)) (ds:List (Nat×Nat)) (i:Nat) (base cur:List (Nat×V)):List Operand→List (Nat×V)
 | []=>[]
 | .tmp t::r=>(t,Zpp T ds i base cur t)::Zml T ds i base cur r
 | _::r=>Zml T ds i base cur r
theorem Zhu {T:List (Nat×List Nat)} {ds:List (Nat×Nat)} {i:Nat} {base cur:List (Nat×V)} {t:Nat}:∀ {l:List Operand},Zbb t (Zml T ds i base cur l)=Zpp T ds i base cur t∨Zbb t (Zml T ds i base cur l)=.any
 | []=>.inr rfl
 | x::r=>by
   cases x with
   | tmp u =>
     simp only [Zml,Z9]
     split
     ·rename_i e;subst e;exact .inl rfl
     ·exact Zhu (l:=r)
   | _=>exact Zhu (l:=r)
def Zsy (op:Op) (out:Out):Out:=match op with
 | .buildSlice _ (_+1) _=>match out with
   | ⟨ob,.osl k,some (l,.row T xs,false)⟩=>match Nat.beq k l with
     | true=>⟨ob,.d (.sl T) xs,some (l,.dead,false)⟩
     | false=>out
   | o=>o
 | _=>out
theorem ZpZ (op:Op) (out:Out):(Zsy op out).ob=out.ob:=by
 unfold Zsy
 split
 ·split
  ·split<;>rfl
  ·rfl
 ·rfl
theorem Znl {r:Option Nat} {o:Oper} {a:Act} {E:Env} {objs:Zaf} {out:Out} (op:Op) (h:Did P r o a E objs out):Did P r o a E objs (Zsy op out):=by
 unfold Zsy
 split
 ·split
  ·rename_i ob k l T xs
   split
   ·rename_i hk
    have hk:=Nat.eq_of_beq_eq_true hk
    subst hk
    intro next Q hn
    refine h next Q (fun E' v g st hdr hv=>?_)
    have ho:Zs k ((k,Obj.row T xs)::objs)=some (.row T xs):=by rw [Zm,if_pos rfl]
    obtain ⟨L,hL,_⟩:=g.at_ k _ ho
    obtain ⟨g2,s2⟩:=g.still ho hL
    have hr:=ZhI g ho hL rfl (v:=.osl k) rfl hv
    simp only [frz,Nat.beq_refl] at hr
    have tr : ∀ l' o, Zs l' ((k, Obj.dead) :: objs) = some o → ∃ o1 L', Zs l' ((k, Obj.dead) :: (k, .row T xs) :: objs) = some o1 ∧ (E'.still L.b ((Obj.row T xs).has L)).loc l' = some L' ∧ (E'.still L.b ((Obj.row T xs).has L)).loc l' = some L' ∧ (∀ L, o.has L → o1.has L) ∧
     (ZaM P (E'.still L.b ((Obj.row T xs).has L)) L' o1→ZaM P (E'.still L.b ((Obj.row T xs).has L)) L' o):=by
     intro l' o h
     have:Zs l' ((k,Obj.dead)::(k,.row T xs)::objs)=some o:=by
      rw [Zm] at h ⊢
      split at h
      ·rename_i e;rw [if_pos e];exact h
      ·rename_i e;rw [if_neg e,Zm,if_neg e];exact h
     obtain ⟨L',hL',_⟩:=g2.at_ l' o this
     exact ⟨o,L',this,hL',hL',fun _ h=>h,fun h=>h⟩
    refine hn (E'.still L.b ((Obj.row T xs).has L)) v (g2.sub rfl rfl tr) (Zb7.swap (P:=P) (by simpa [moved,edit] using st.trans s2) tr (fun l' hl'=>?_)) hdr hr
    obtain ⟨h1,h2⟩:=ZaE hl'
    rw [Zm,if_neg (Ne.symm h1),Zm,if_neg (Ne.symm h1)];exact h2
   ·exact h
  ·exact h
 ·exact h
def edM (op:Op) (os:Zaf) (n:Nat) (v:V):Option (Nat×Obj×Bool)→Option (V×Zaf)
 | none=>some (v,[])
 | some (l,o,false)=>match Nat.beq l n with
   | true=>some (v,[(l,o)])
   | false=>match Zs l os with
     | some _=>some (v,[(l,o)])
     | none=>none
 | some (l,o,true)=>match op with
   | .call { callee:=.builtin .append,.. }=>match o with
     | .row T zs=>some (.osl n,[(n,.row T zs),(l,.dead)])
     | _=>none
   | .call { callee:=.value _,.. }=>match o with
     | .row T zs=>some (.osl n,[(n,.row T zs),(l,.dead)])
     | _=>none
   | _=>none
def Zvm:List Nat→Zaf→List (Nat×V)→Option (List (Nat×V)×Zaf×Zaf)
 | [],os,tm=>some (tm,os,[])
 | k::r,os,tm=>match Zs k os with
   | some o=>match Zvm r ((k,.dead)::os) (Zb2 (frz k o) tm) with
     | some (tm',os',ds)=>some (tm',os',ds++[(k,.dead)])
     | none=>none
   | none=>none
def Zvq (τ:Zaj) (κ:Z0) (op:Op) (tm:List (Nat×V)) (os:Zaf) (n:Nat):Option (Option Prop×V×Zaf):=match Zvm (ZoI τ κ op tm os) os tm with
 | none=>none
 | some (tm',os',ds)=>match Zs7 τ κ op tm' os' n with
   | none=>none
   | some out=>match Zsy op out with
     | ⟨ob,v,ed⟩=>match edM op os' n v ed with
       | none=>none
       | some (v',es)=>some (ob,v',es++ds)
def ZvZ (P:Program) (r:Option Nat) (o:Oper) (a:Act) (E:Env) (objs:Zaf) (v:V) (es:Zaf):Prop :=
 ∀ (next:Act→World→Prop) (Q:ZiC),(∀ E' u,Z2 P E' (es++objs)→Zb7 E objs E' (es++objs) []→E.w.drawn≤E'.w.drawn→Rep P E' v u→next (a.put o.dst u) E'.w)→o.wpIn (fz r) 0 P a E.w next Q
theorem Sub.cons {os objs:Zaf} (h:Sub os objs) (k:Nat) (o:Obj):Sub ((k,o)::os) ((k,o)::objs):=fun l x hx=>by
 rw [Zm] at hx ⊢
 split at hx
 ·rename_i e;rw [if_pos e];exact hx
 ·rename_i e;rw [if_neg e];exact h l x hx
theorem Zqh {ρ : Operand → Value} {ops : List Operand} (hρ : ∀ x, (∃ t, x = .tmp t) ∨ ∀ E tm, Rep P E (evV tm x) (ρ x)) : ∀ {ks : List Nat} {os objs : Zaf} {tm tm' : List (Nat × V)} {os' ds : Zaf} {E : Env}, Zvm ks os tm = some (tm', os', ds) → Sub os objs → Z2 P E objs → (∀ x ∈ ops, Rep P E (evV tm x) (ρ x)) →
 ∃ E',E'.w=E.w∧E'.loc=E.loc∧Z2 P E' (ds++objs)∧Zb7 E objs E' (ds++objs) []∧Sub os' (ds++objs)∧(∀ x∈ops,Rep P E' (evV tm' x) (ρ x))∧(∀ l x,Zs l ds=some x→∃ y,Zs l os=some y)∧(∀ l x,Zs l os'=some x→∃ y,Zs l os=some y)
 | [],os,objs,tm,tm',os',ds,E,h,hs,g,hr=>by
   cases h
   exact ⟨E,rfl,rfl,g,.refl _ _ _,hs,hr,fun l x h=>(by cases h),fun l x h=>⟨x,h⟩⟩
 | k::r,os,objs,tm,tm',os',ds,E,h,hs,g,hr=>by
   simp only [Zvm] at h
   split at h
   ·rename_i o ho
    split at h
    ·rename_i tm2 os2 ds2 h2
     cases h
     obtain ⟨L,hL,_⟩:=g.at_ k o (hs k o ho)
     obtain ⟨g1,s1⟩:=g.still (hs k o ho) hL
     have hx:Ext E (E.still L.b (o.has L)) []:=⟨fun b hs=>⟨.inl hs,rfl⟩,fun j K _ hK=>hK⟩
     have hr1:∀ x∈ops,Rep P (E.still L.b (o.has L)) (evV (Zb2 (frz k o) tm) x) (ρ x):=fun x hx'=>by
      rcases hρ x with ⟨t,rfl⟩ | h
      ·show Rep P _ (Zbb t (Zb2 _ tm)) _
       rw [ZbU,Zcc]
       exact ZbZ hx.S (fun v c hr h=>ZhI g (hs k o ho) hL rfl hr h) (hr _ hx')
      ·exact h _ _
     obtain ⟨E',e1,e2,g2,s2,k1,k2,k3,k4⟩:=Zqh hρ h2 (hs.cons k .dead) g1 hr1
     have ee:ds2++(k,Obj.dead)::objs=ds2++[(k,.dead)]++objs:=by simp
     rw [ee] at g2 s2 k1
     have back:∀ l,(∃ y,Zs l ((k,Obj.dead)::os)=some y)→∃ y,Zs l os=some y:=fun l ⟨y,hy⟩=>by
      rw [Zm] at hy
      split at hy
      ·rename_i e;subst e;exact ⟨o,ho⟩
      ·exact ⟨y,hy⟩
     refine ⟨E',e1,e2,g2,by simpa using s1.trans s2,k1,k2,fun l x hl=>?_,fun l x hl=>back l (k4 l x hl)⟩
     rw [Zcf] at hl
     split at hl
     ·rename_i y hy;exact back l (k3 l y hy)
     ·rw [Zm] at hl
      split at hl
      ·rename_i e;subst e;exact ⟨o,ho⟩
      ·cases hl
    ·cases h
   ·cases h
theorem ZnF (hτ : Za8 P τ) (hκ : Zag P κ) {r : Option Nat} {o : Oper} {tm : List (Nat × V)} {os objs : Zaf} {n : Nat} {ob : Option Prop} {v : V} {es : Zaf} {E : Env} {a : Act} (h : Zvq τ κ o.op tm os n = some (ob, v, es)) (hs : Sub os objs) (ho : okP ob) (g : Z2 P E objs)
 (hf:E.loc n=none) (hr:∀ x∈o.op.operands,Rep P E (evV tm x) (a.eval x)):ZvZ P r o a E objs v es∧(∀ l x,Zs l es=some x→l=n∨∃ y,Zs l os=some y):=by
 unfold Zvq at h
 split at h
 ·cases h
 ·rename_i tm' os' ds hfz
  have hρ:∀ x,(∃ t,x=Operand.tmp t)∨∀ E tm,Rep P E (evV tm x) (a.eval x):=fun x=>by
   cases x with
   | tmp t=>exact .inl ⟨t,rfl⟩
   | const v=>exact .inr fun E tm=>Zey v
   | global g=>exact .inr fun E tm=>.any _
   | func f=>exact .inr fun E tm=>.fn rfl rfl (fun j hj=>by simp at hj) (fun j hj=>by simp at hj)
  obtain ⟨E1,e1,e2,g1,s1,k1,k2,k3,k4⟩:=Zqh (ops:=o.op.operands.toList) hρ hfz hs g (fun x hx=>hr x (Array.mem_toList_iff.1 hx))
  split at h
  ·cases h
  ·rename_i out he
   generalize hdat:Zsy o.op out=out' at h
   obtain ⟨ob',v0,ed⟩:=out'
   simp only at h
   split at h
   ·cases h
   ·rename_i v' es' hed
    cases h
    have hob:okP out.ob:=by rw [← ZpZ o.op out,hdat];exact ho
    have hf1:E1.loc n=none:=by rw [e2];exact hf
    have hd0:=Zha (r:=r) (a:=a) hτ hκ he k1 hob g1 hf1 (fun x hx=>k2 x (Array.mem_toList_iff.2 hx))
    have hd1:=Znl o.op hd0
    rw [hdat] at hd1
    have plain:∀ es',(ed=none∧es'=[]∨∃ l x,ed=some (l,x,false)∧es'=[(l,x)])→ZvZ P r o a E objs v0 (es'++ds):=by
     intro es' hes next Q hn
     have:=hd1 next Q
     rw [e1] at this
     refine this (fun E' u g' st hdr hu=>hn E' u ?_ ?_ hdr hu)
     ·rcases hes with ⟨rfl,rfl⟩ | ⟨l,x,rfl,rfl⟩
      ·exact g'
      ·exact g'
     ·rcases hes with ⟨rfl,rfl⟩ | ⟨l,x,rfl,rfl⟩
      ·simpa [edit,moved] using s1.trans st
      ·simpa [edit,moved] using s1.trans st
    have keys:∀ es',(∀ l x,Zs l es'=some x→l=n∨∃ y,Zs l os'=some y)→∀ l x,Zs l (es'++ds)=some x→l=n∨∃ y,Zs l os=some y:=fun es' hk l x hx=>by
     rw [Zcf] at hx
     split at hx
     ·rename_i y hy
      rcases hk l y hy with h | ⟨z,hz⟩
      ·exact .inl h
      ·exact .inr (k4 l z hz)
     ·exact .inr (k3 l x hx)
    unfold edM at hed
    split at hed
    ·cases hed
     exact ⟨plain [] (.inl ⟨rfl,rfl⟩),keys [] (fun l x h=>by cases h)⟩
    ·rename_i l x
     split at hed
     ·rename_i hb
      cases hed
      exact ⟨plain _ (.inr ⟨l,x,rfl,rfl⟩),keys _ (fun l' x' h=>by
       rw [Zm] at h
       split at h
       ·rename_i e;rw [← e];exact .inl (Nat.eq_of_beq_eq_true hb)
       ·cases h)⟩
     ·split at hed
      ·rename_i y hy
       cases hed
       exact ⟨plain _ (.inr ⟨l,x,rfl,rfl⟩),keys _ (fun l' x' h=>by
        rw [Zm] at h
        split at h
        ·rename_i e;rw [← e];exact .inr ⟨y,hy⟩
        ·cases h)⟩
      ·cases hed
    ·rename_i l x
     obtain ⟨dst,op,ty,po,af,guard⟩:=o
     split at hed
     ·rename_i args tys hop
      split at hed
      ·rename_i T zs
       cases hed
       simp only at hop
       subst hop
       have hdo:out=⟨ob,v0,some (l,.row T zs,true)⟩:=by rw [← hdat];rfl
       subst hdo
       simp only [Zs7,eff] at he
       obtain ⟨al⟩:=args
       obtain ⟨tl⟩:=tys
       simp only [Zgc] at he
       split at he
       ·split at he
        ·rename_i t u _ x y e3
         obtain ⟨b,c,rfl,rfl,rfl⟩:=Zd2 e3
         have rb:=k2 b (by simp [Op.operands,Call.operands])
         have rc:=k2 c (by simp [Op.operands,Call.operands])
         obtain ⟨rfl,L,xs,c1,c2,w,K,row,c3,c4,c5,c6,c7⟩:=ZiI (ty:=ty) hτ he k1 hob g1 rb rc
         obtain ⟨E',d1,d2,d3,d4⟩:=g1.remake c1 c2 hf1 c3 c4 c5 c6
         refine ⟨fun next Q hn=>⟨fun _ _=>trivial,?_⟩,keys _ (fun l' x' h=>?_)⟩
         ·rw [Oper.semAt_eq _ _ _ (fun c=>by simp)]
          have hrun:(execOp a.eval ⟨dst,.call { callee:=.builtin .append,args:=⟨[b,c]⟩,argTypes:=⟨[t,u]⟩ },ty,po,af,guard⟩).run P E.w=.ok (.value K.v) E'.w:=by
           have:execOp a.eval ⟨dst,.call { callee:=.builtin .append,args:=⟨[b,c]⟩,argTypes:=⟨[t,u]⟩ },ty,po,af,guard⟩=(do let v ← Builtin.append_ #[t,u] ty #[a.eval b,a.eval c];pure (Next.value v)):=by simp [execOp,resolve,invoke,builtin]
           rw [this,← e1,d1]
           simp [c7]
          rw [hrun]
          exact hn E' K.v (by simpa using d3) (by simpa using s1.trans d4) (by rw [← e1];exact ZfN _ _ _ _ (by rw [d1];exact c7)) (.osl d2)
         ·rw [Zm] at h
          split at h
          ·rename_i e;exact .inl e.symm
          ·rw [Zm] at h
           split at h
           ·rename_i e
            subst e
            refine .inr ?_
            unfold Zdo at he
            split at he
            ·split at he
             ·split at he
              ·split at he
               ·split at he
                ·cases he
                ·split at he
                 ·split at he
                  ·rename_i hcs _;cases he;exact ⟨_,hcs⟩
                  ·cases he
                 ·cases he
                ·split at he
                 ·split at he
                  ·split at he
                   ·cases he
                   ·rename_i hcs _ _ _;cases he;exact ⟨_,hcs⟩
                  ·cases he
                 ·cases he
                ·cases he
               ·cases he
              ·split at he
               ·split at he
                ·split at he
                 ·cases he
                 ·split at he
                  ·split at he
                   ·rename_i hcs _;cases he;exact ⟨_,hcs⟩
                   ·cases he
                  ·cases he
                 ·cases he
                ·cases he
               ·cases he
             ·cases he
            ·cases he
           ·cases h
        ·cases he
       ·cases he
      ·cases hed
     ·rename_i x args tys hop
      split at hed
      ·rename_i T zs
       cases hed
       simp only at hop
       subst hop
       have hdo:out=⟨ob,v0,some (l,.row T zs,true)⟩:=by rw [← hdat];rfl
       subst hdo
       simp only [Zs7] at he
       split at he
       ·rename_i rc hrc
        obtain ⟨gf,q1,q2,T0,q3⟩:=ZpO hκ hrc he k1 hob g1 (k2 x (by simp [Op.operands,Call.operands])) (ZbW fun y hy=>k2 y (by simp only [Op.operands,Call.operands];simp [Array.mem_toList_iff.1 hy]))
        rcases q3 with ⟨_,_,q4,_⟩ | ⟨l',L,xs,zs',q0,hL,q4,q5,hc⟩
        ·cases q4
        ·obtain ⟨rfl,hzz,_⟩:l=l'∧Obj.row T zs=Obj.row T0 zs'∧True:=by
          have:=Option.some.inj q5
          simp only [Prod.mk.injEq] at this
          exact ⟨this.1,this.2.1,trivial⟩
         cases hzz
         refine ⟨fun next Q hn=>?_,keys _ (fun l' x' h=>?_)⟩
         ·have hwp:=ZhE (r:=r) (o:=⟨dst,.call { callee:=.value x,args:=args,argTypes:=tys },ty,po,af,guard⟩) (a:=a) (E:=E1) rfl q1 q2 hc (next:=next) (Q:=Q) (by
           rintro e w2 ⟨K,rfl,row,c3,c4,c5,c6,c7⟩
           obtain ⟨E',d1,d2,d3,d4⟩:=g1.remake (k1 _ _ q0) hL hf1 c3 c4 c5 c6
           refine ⟨_,rfl,?_⟩
           rw [← d1]
           exact hn E' K.v (by simpa using d3) (by simpa using s1.trans d4) (by rw [← e1,d1];exact c7) (.osl d2))
          rw [e1] at hwp
          exact hwp
         ·rw [Zm] at h
          split at h
          ·rename_i e;exact .inl e.symm
          ·rw [Zm] at h
           split at h
           ·rename_i e;subst e;exact .inr ⟨_,q0⟩
           ·cases h
       ·split at he
        ·unfold Znb at he
         split at he
         ·split at he
          ·split at he<;>cases he
          ·cases he
         ·split at he
          ·split at he<;>cases he
          ·cases he
        ·split at he<;>cases he
      ·cases hed
     ·cases hed
def edG (n:Nat):Option (Nat×Obj×Bool)→Option Zaf
 | none=>some []
 | some (l,.dead,false)=>match Nat.beq l n with
   | true=>some [(l,.dead)]
   | false=>none
 | _=>none
def Zue (τ:Zaj) (κ:Z0) (dec g:Bool) (i:Nat) (dst:Option Nat) (op:Op) (tm:List (Nat×V)) (os:Zaf) (ks:List Nat) (n:Nat):Option (Option Prop×Rc):=match dec with
 | false=>none
 | true=>match g with
   | true=>match Zvq τ κ op (Zp5 op tm) os n with
     | some (ob,v,es)=>some (Zf1 true (ZgB op tm) ob,⟨i,dst,v,es,ZlJ es++(V.ks v++ks)⟩)
     | none=>none
   | false=>some (none,⟨i,dst,.when false (.d .bool false),[],ks⟩)
theorem ZsS {dec g:Bool} {i:Nat} {dst:Option Nat} {op:Op} {tm:List (Nat×V)} {os:Zaf} {ks:List Nat} {n:Nat} {ob:Option Prop} {rc:Rc} (h:Zue τ κ dec g i dst op tm os ks n=some (ob,rc)):rc.i=i∧rc.dst=dst:=by
 unfold Zue at h
 split at h
 ·cases h
 ·split at h
  ·split at h
   ·cases h;exact ⟨rfl,rfl⟩
   ·cases h
  ·cases h;exact ⟨rfl,rfl⟩
def Zui (τ:Zaj) (κ:Z0) (dec:Bool) (T:List (Nat×List Nat)) (ds:List (Nat×Nat)) (ops:List Oper) (n0:Nat) (base:List (Nat×V)) (i:Nat) (o:Oper) (cur:St):Option (Option Prop×Rc):=match o,cur with
 | ⟨dst,op,_,_,_,guard⟩,⟨_,tmps,objs,_,_,_,_,_⟩=>match Zml T ds i base tmps op.operands.toList with
   | tm=>match Zub op objs (ksL (Zbx tm op.operands.toList)) with
     | ks=>match ZmM objs ks with
       | os=>match guard with
         | none=>match Zvq τ κ op tm os (n0+i) with
           | some (ob,v,es)=>some (ob,⟨i,dst,v,es,ZlJ es++(V.ks v++ks)⟩)
           | none=>none
         | some (j,want)=>match Zvg ops j with
           | none=>none
           | some gd=>match ZhR want (Zpp T ds i base tmps gd) with
             | none=>none
             | some g=>match Zs7 τ κ op (Zp5 op tm) os (n0+i) with
               | some out=>match Zsy op out with
                 | ⟨ob,v,ed⟩=>match edG (n0+i) ed with
                   | some es=>some (Zf1 g (ZgB op tm) ob,⟨i,dst,.when g v,es,ZlJ es++(V.ks v++ks)⟩)
                   | none=>Zue τ κ dec g i dst op tm os ks (n0+i)
               | none=>Zue τ κ dec g i dst op tm os ks (n0+i)
def Zjf (τ:Zaj) (κ:Z0) (dec:Bool) (T:List (Nat×List Nat)) (ds:List (Nat×Nat)) (ops:List Oper) (n0:Nat) (base:List (Nat×V)):Nat→List Oper→St→Option (List (Option Prop)×List Rc×St)
 | _,[],s=>some ([],[],s)
 | i,o::r,s=>match Zui τ κ dec T ds ops n0 base i o s with
   | none=>none
   | some (ob,rc)=>match rc.app s with
     | ⟨nt,tmps,objs,nx,df,wr,di,mv⟩=>match Zjf τ κ dec T ds ops n0 base (i+1) r ⟨nt,tmps,objs,nx,df,wr,di,mv⟩ with
       | none=>none
       | some (obs,R,s')=>some (ob::obs,rc::R,s')
def ZvN:List (Option Prop)→Prop→Prop
 | [],k=>k
 | ob::r,k=>Ztt ob (ZvN r k)
theorem Znu {k:Prop}:∀ {l:List (Option Prop)},ZvN l k→(∀ ob∈l,okP ob)∧k
 | [],h=>⟨fun ob hb=>by simp at hb,h⟩
 | ob::r,h=>by
   obtain ⟨h1,h2⟩:=Zkr h
   obtain ⟨h3,h4⟩:=Znu h2
   exact ⟨fun q hq=>(List.mem_cons.1 hq).elim (fun e=>e▸h1) (h3 q),h4⟩
theorem ZdE {p:Nat→Bool}:∀ {A B:List Rc} {s:St},replay p (A++B) s=replay p B (replay p A s)
 | [],_,_=>rfl
 | r::rs,B,s=>by simp only [List.cons_append,replay];exact ZdE
theorem Zfd {p:Nat→Bool}:∀ {B:List Rc} {s:St},(∀ r∈B,p r.i=false)→replay p B s=s
 | [],_,_=>rfl
 | r::rs,s,h=>by
   simp only [replay]
   rw [h r (by simp)]
   exact Zfd fun r' hr'=>h r' (List.mem_cons_of_mem _ hr')
theorem Zci {p q:Nat→Bool}:∀ {B:List Rc} {s:St},(∀ r∈B,p r.i=q r.i)→replay p B s=replay q B s
 | [],_,_=>rfl
 | r::rs,s,h=>by
   simp only [replay]
   rw [h r (by simp)]
   exact Zci fun r' hr'=>h r' (List.mem_cons_of_mem _ hr')
theorem Zqg {dec:Bool} {T:List (Nat×List Nat)} {ds:List (Nat×Nat)} {ops:List Oper} {n0:Nat} {base:List (Nat×V)} {i:Nat} {o:Oper} {cur:St} {ob:Option Prop} {rc:Rc} (h:Zui τ κ dec T ds ops n0 base i o cur=some (ob,rc)):rc.i=i∧rc.dst=o.dst:=by
 obtain ⟨dst,op,ty,po,af,guard⟩:=o
 cases cur
 simp only [Zui] at h
 split at h
 ·split at h
  ·cases h;exact ⟨rfl,rfl⟩
  ·cases h
 ·split at h
  ·cases h
  ·split at h
   ·cases h
   ·split at h
    ·split at h
     ·cases h;exact ⟨rfl,rfl⟩
     ·exact ZsS h
    ·exact ZsS h
theorem Zi9 {dec : Bool} {T : List (Nat × List Nat)} {ds : List (Nat × Nat)} {ops : List Oper} {n0 : Nat} {base : List (Nat × V)} {s0 : St} : ∀ {l : List Oper} {i : Nat} {cur send : St} {R0 R' : List Rc} {obs : List (Option Prop)},
 Zjf τ κ dec T ds ops n0 base i l cur=some (obs,R',send)→(∀ r∈R0,r.i < i)→cur=replay (fun _=>true) R0 s0 →
 R'.Pairwise (fun a b=>a.i < b.i)∧(∀ r∈R',i≤r.i∧r.i < i+l.length)∧send=replay (fun _=>true) (R0++R') s0 ∧
  ∀ j o,l[j]?=some o→∃ ob rc,Zui τ κ dec T ds ops n0 base (i+j) o (replay (fun k=>decide (k < i+j)) (R0++R') s0)=some (ob,rc)∧ob∈obs∧rc∈R'
 | [],i,cur,send,R0,R',obs,h,h1,h2=>by
   simp only [Zjf,Option.some.injEq,Prod.mk.injEq] at h
   obtain ⟨rfl,rfl,rfl⟩:=h
   exact ⟨.nil,fun r hr=>by simp at hr,by simpa using h2,fun j o hj=>by simp at hj⟩
 | o::r,i,cur,send,R0,R',obs,h,h1,h2=>by
   simp only [Zjf] at h
   split at h
   ·cases h
   ·rename_i ob rc hrc
    split at h
    ·cases h
    ·rename_i obs2 R2 s2 hg
     cases h
     have hi:=(Zqg hrc).1
     have ih:=Zi9 (R0:=R0++[rc]) hg (fun r hr=>by
      rcases List.mem_append.1 hr with hr | hr
      ·exact Nat.lt_succ_of_lt (h1 r hr)
      ·simp at hr;subst hr;omega) (by
      rw [ZdE,← h2];rfl)
     obtain ⟨k0,k1,k2,k3⟩:=ih
     have e:R0++[rc]++R2=R0++rc::R2:=by simp
     rw [e] at k2 k3
     refine ⟨List.pairwise_cons.2 ⟨fun r' hr'=>by have:=k1 r' hr';omega,k0⟩,fun r' hr'=>?_,k2,fun j o' hj=>?_⟩
     ·rcases List.mem_cons.1 hr' with rfl | hr'
      ·simp;omega
      ·have:=k1 r' hr';simp;omega
     ·cases j with
      | zero =>
        simp at hj;subst hj
        refine ⟨ob,rc,?_,by simp,by simp⟩
        have:replay (fun k=>decide (k < i+0)) (R0++rc::R2) s0=cur:=by
         rw [ZdE,Zfd,h2]
         ·exact Zci fun r' hr'=>by simpa using h1 r' hr'
         ·intro r' hr'
          rcases List.mem_cons.1 hr' with rfl | hr'
          ·simp;omega
          ·have:=k1 r' hr';simp;omega
        rw [this];exact hrc
      | succ j =>
        obtain ⟨ob',rc',m1,m2,m3⟩:=k3 j o' (by simpa using hj)
        rw [show i+1+j=i+(j+1) from by omega] at m1
        exact ⟨ob',rc',m1,List.mem_cons_of_mem _ m2,List.mem_cons_of_mem _ m3⟩
def ZoH:Zaf→List Nat→Bool
 | [],_=>true
 | (l,_)::r,ks=>match Zdq l ks with
   | true=>false
   | false=>ZoH r ks
theorem Zng {l:Nat} {o:Obj} {ks:List Nat}:∀ {e:Zaf},ZoH e ks=true→Zs l e=some o→l∉ks
 | [],_,h=>by cases h
 | (k,p)::r,hd,h=>by
   simp only [ZoH] at hd
   split at hd
   ·cases hd
   ·rename_i hk
    rw [Zm] at h
    split at h
    ·rename_i e;subst e;exact fun hm=>by rw [Zbd.2 hm] at hk;cases hk
    ·exact Zng hd h
def Zmp (T:List (Nat×List Nat)) (r:Rc):List Rc→Bool
 | []=>true
 | q::l=>match Zdq r.i (Zes q.i T) with
   | true=>Zmp T r l
   | false=>match Zdq q.i (Zes r.i T) with
     | true=>Zmp T r l
     | false=>match ZoH r.ed q.ks with
       | true=>match ZoH q.ed r.ks with
         | true=>Zmp T r l
         | false=>false
       | false=>false
def ZqO (T:List (Nat×List Nat)):List Rc→Bool
 | []=>true
 | r::l=>match Zmp T r l with
   | true=>ZqO T l
   | false=>false
def ZhF (nt:Nat) (ds:List (Nat×Nat)):List Rc→Bool
 | []=>true
 | ⟨i,some d,_,_,_⟩::l=>match Zqe d ds with
   | some j=>match Nat.beq j i with
     | true=>match Nat.blt d nt with
       | true=>ZhF nt ds l
       | false=>false
     | false=>false
   | none=>false
 | _::l=>ZhF nt ds l
theorem ZhD {T:List (Nat×List Nat)} {r:Rc}:∀ {l:List Rc},Zmp T r l=true→∀ q∈l,r.i∈Zes q.i T∨q.i∈Zes r.i T∨(ZoH r.ed q.ks=true∧ZoH q.ed r.ks=true)
 | [],_,q,h=>by simp at h
 | q'::l,h,q,hq=>by
   simp only [Zmp] at h
   have key:(q=q'→r.i∈Zes q.i T∨q.i∈Zes r.i T∨(ZoH r.ed q.ks=true∧ZoH q.ed r.ks=true))→Zmp T r l=true→r.i∈Zes q.i T∨q.i∈Zes r.i T∨(ZoH r.ed q.ks=true∧ZoH q.ed r.ks=true) :=
    fun h1 h2=>(List.mem_cons.1 hq).elim h1 (ZhD h2 q)
   split at h
   ·rename_i h1;exact key (fun e=>.inl (e▸Zbd.1 h1)) h
   ·split at h
    ·rename_i h1;exact key (fun e=>.inr (.inl (e▸Zbd.1 h1))) h
    ·split at h
     ·rename_i h1
      split at h
      ·rename_i h2;exact key (fun e=>.inr (.inr (e▸⟨h1,h2⟩))) h
      ·cases h
     ·cases h
theorem Zh9 {T:List (Nat×List Nat)}:∀ {l:List Rc},ZqO T l=true→∀ r∈l,∀ q∈l,r=q∨r.i∈Zes q.i T∨q.i∈Zes r.i T∨(ZoH r.ed q.ks=true∧ZoH q.ed r.ks=true)
 | [],_,r,h,_,_=>by simp at h
 | x::l,h,r,hr,q,hq=>by
   simp only [ZqO] at h
   split at h
   ·rename_i h1
    rcases List.mem_cons.1 hr with hr1 | hr1
    ·rcases List.mem_cons.1 hq with hq1 | hq1
     ·exact .inl (hr1.trans hq1.symm)
     ·rw [hr1];exact .inr (ZhD h1 q hq1)
    ·rcases List.mem_cons.1 hq with hq1 | hq1
     ·rw [hq1]
      rcases ZhD h1 r hr1 with h | h | h
      ·exact .inr (.inr (.inl h))
      ·exact .inr (.inl h)
      ·exact .inr (.inr (.inr ⟨h.2,h.1⟩))
     ·exact Zh9 h r hr1 q hq1
   ·cases h
theorem Zcb {nt:Nat} {ds:List (Nat×Nat)}:∀ {l:List Rc},ZhF nt ds l=true→∀ r∈l,∀ d,r.dst=some d→Zqe d ds=some r.i∧d < nt
 | [],_,r,h,_,_=>by simp at h
 | ⟨i,dst,v,ed,ks⟩::l,h,r,hr,d,hd=>by
   cases dst with
   | none =>
     simp only [ZhF] at h
     rcases List.mem_cons.1 hr with rfl | hr
     ·cases hd
     ·exact Zcb h r hr d hd
   | some d' =>
     simp only [ZhF] at h
     split at h
     ·rename_i j hj
      split at h
      ·rename_i h1
       split at h
       ·rename_i h2
        rcases List.mem_cons.1 hr with rfl | hr
        ·cases hd
         rw [hj,Nat.eq_of_beq_eq_true h1]
         exact ⟨rfl,Nat.le_of_ble_eq_true h2⟩
        ·exact Zcb h r hr d hd
       ·cases h
      ·cases h
     ·cases h
end Go.Proofs.YtgpdnmfpgkkgcaaGreatDoor
namespace Go.Proofs.YtgpdnmfpgkkgcaaGreatDoor
open Go
set_option linter.unusedVariables false
variable {P:Program} {τ:Zaj} {κ:Z0} {φ:Nat→Option FX}
theorem ZgM {p:Nat→Bool} {l:Nat}:∀ {A B:List Rc},Zdn p l (A++B)=(match Zdn p l B with | some o=>some o | none=>Zdn p l A)
 | [],B=>by simp only [List.nil_append,Zdn];split<;>simp_all
 | r::A,B=>by
   simp only [List.cons_append,Zdn]
   rw [ZgM (A:=A)]
   cases h:Zdn p l B with
   | some o=>rfl
   | none=>rfl
theorem ZgL {p:Nat→Bool} {l:Nat}:∀ {A B:List Rc},ZdL p l (A++B)=(match ZdL p l B with | some o=>some o | none=>ZdL p l A)
 | [],B=>by simp only [List.nil_append,ZdL];split<;>simp_all
 | r::A,B=>by
   simp only [List.cons_append,ZdL]
   rw [ZgL (A:=A)]
   cases h:ZdL p l B with
   | some o=>rfl
   | none=>rfl
theorem Zji {p:Nat→Bool} {l:Nat}:∀ {A:List Rc},(∀ r∈A,∀ o,Zs l r.ed=some o→p r.i=false)→Zdn p l A=none
 | [],_=>rfl
 | r::A,h=>by
   simp only [Zdn]
   rw [Zji (A:=A) (fun r' hr'=>h r' (List.mem_cons_of_mem _ hr'))]
   cases hed:Zs l r.ed with
   | none=>simp
   | some x=>simp [h r (by simp) x hed]
theorem Zde {p:Nat→Bool} {t:Nat}:∀ {A:List Rc},(∀ r∈A,r.dst=some t→p r.i=false)→ZdL p t A=none
 | [],_=>rfl
 | r::A,h=>by
   simp only [ZdL]
   rw [Zde (A:=A) (fun r' hr'=>h r' (List.mem_cons_of_mem _ hr'))]
   simp only
   rw [if_neg]
   rintro ⟨h1,h2⟩
   rw [h r (by simp) h2] at h1;cases h1
def ZlL (L:Nat→Bool) (i:Nat):Nat→Bool:=fun j=>L j||decide (j=i)
theorem Zsf (hτ : Za8 P τ) (hκ : Zag P κ) {dec : Bool} {r : Option Nat} {cx : Cx} {ops : Array Oper} {T : List (Nat × List Nat)} (hT : PT ops T) {ds : List (Nat × Nat)} {n0 i : Nat} {o : Oper} {ob : Option Prop} {rc : Rc} {R : List Rc} {s0 : St}
 (hi:ops[i]?=some o) (hrc:Zui τ κ dec T ds ops.toList n0 s0.tmps i o (replay (fun k=>decide (k < i)) R s0)=some (ob,rc)) (ho:okP ob) (hmem:rc∈R) (hsort:R.Pairwise fun a b=>a.i < b.i) (hp:ZqO T R=true) (hd:ZhF s0.nt ds R=true)
 (hlt:∀ q∈R,q.i < ops.size) (hnx:s0.nx=n0+ops.size) {L:Nat→Bool} (hL:L i=false) (hdown:∀ q∈R,L q.i=true→∀ j∈Zes q.i T,(∃ q'∈R,q'.i=j)→L j=true) (hpi:∀ j∈Zes i T,(∃ q'∈R,q'.i=j)→L j=true)
 {a:Act} {E:Env} (hr:Zcd P cx (replay L R s0) a E) (hf:∀ q∈R,L q.i=false→E.loc (n0+q.i)=none) {Q:ZiC} {K:Act→World→Prop}
 (hK:∀ a' E',Zcd P cx (replay (ZlL L i) R s0) a' E'→(∀ q∈R,ZlL L i q.i=false→E'.loc (n0+q.i)=none)→K a' E'.w):wpOpIn (fz r) 0 P ops Q i K a E.w:=by
 have hii:=(Zqg hrc).1
 have hdst:=(Zqg hrc).2
 have hilt:i < ops.size:=(Array.getElem?_eq_some_iff.1 hi).1
 have huniq:∀ q∈R,q.i=i→q=rc:=fun q hq e=>by
  rcases Zh9 hp q hq rc hmem with h | h | h | _
  ·exact h
  ·rw [hii] at h;have:=hT.lt i q.i hilt h;omega
  ·rw [e] at h;rw [hii] at h;have:=hT.lt i i hilt h;omega
  ·obtain ⟨A,B,hAB⟩:=List.append_of_mem hmem
   rw [hAB] at hsort hq
   rw [List.pairwise_append] at hsort
   obtain ⟨_,h2,h3⟩:=hsort
   rcases List.mem_append.1 hq with h | h
   ·have:=h3 q h rc (by simp);omega
   ·rcases List.mem_cons.1 h with h | h
    ·exact h
    ·have:=(List.pairwise_cons.1 h2).1 q h;omega
 obtain ⟨A,B,hAB⟩:=List.append_of_mem hmem
 have hA:∀ q∈A,q.i < i:=fun q hq=>by
  rw [hAB,List.pairwise_append] at hsort
  have:=hsort.2.2 q hq rc (by simp);omega
 have hB:∀ q∈B,i < q.i:=fun q hq=>by
  rw [hAB,List.pairwise_append] at hsort
  have:=(List.pairwise_cons.1 hsort.2.1).1 q hq;omega
 have hord:∀ q∈R,∀ l x,Zs l q.ed=some x→l∈rc.ks→(decide (q.i < i))=L q.i∨q=rc:=fun q hq l x hed hl=>by
  rcases Zh9 hp q hq rc hmem with h | h | h | h
  ·exact .inr h
  ·rw [hii] at h
   have h1:=hT.lt i q.i hilt h
   have h2:=hpi q.i h ⟨q,hq,rfl⟩
   rw [h2];left;simpa using h1
  ·rw [hii] at h
   have h1:=hT.lt q.i i (hlt q hq) h
   left
   cases hLq:L q.i with
   | false=>simp;omega
   | true=>rw [hdown q hq hLq i h ⟨rc,hmem,hii⟩] at hL;cases hL
  ·exact absurd hl (Zng h.1 hed)
 have hobj:∀ l∈rc.ks,Zs l (replay (fun k=>decide (k < i)) R s0).objs=Zs l (replay L R s0).objs:=fun l hl=>by
  rw [ZcP,ZcP,Zfe (p:=fun k=>decide (k < i)) (q:=L)]
  intro q hq x hed
  rcases hord q hq l x hed hl with h | h
  ·exact h
  ·subst h;rw [hii,hL];simp
 have hval:∀ t,Rep P E (Zpp T ds i s0.tmps (replay (fun k=>decide (k < i)) R s0).tmps t) (a.tmps.getD t undef):=fun t=>by
  have hrep:=hr.rep t
  rw [Zcz] at hrep
  unfold Zpp
  split
  ·rename_i hn
   rw [Zde] at hrep
   ·exact hrep
   ·intro q hq hqd
    rw [(Zcb hd q hq t hqd).1] at hn;cases hn
  ·rename_i j hj
   have hq:∀ q∈R,q.dst=some t→q.i=j:=fun q hq hqd=>by
    have:=(Zcb hd q hq t hqd).1
    rw [hj] at this;cases this;rfl
   split
   ·rename_i hm
    rw [Zcz,Zfb (p:=fun k=>decide (k < i)) (q:=L)]
    ·exact hrep
    ·intro q hqm hqd
     have e:=hq q hqm hqd
     rw [e]
     have hm:=Zbd.1 hm
     rw [hpi j hm ⟨q,hqm,e⟩]
     have:=hT.lt i j hilt hm
     simpa using this
   ·split
    ·rename_i he
     have he:=Nat.eq_of_beq_eq_true he
     rw [Zde] at hrep
     ·exact hrep
     ·intro q hqm hqd
      rw [hq q hqm hqd,he];exact hL
    ·split
     ·rename_i hm
      have hm:=Zbd.1 hm
      rw [Zde] at hrep
      ·exact hrep
      ·intro q hqm hqd
       rw [hq q hqm hqd]
       cases hLj:L j with
       | false=>rfl
       | true =>
         have e:=hq q hqm hqd
         have:=hdown q hqm (by rw [e];exact hLj) i (by rw [e];exact hm) ⟨rc,hmem,hii⟩
         rw [hL] at this;cases this
     ·exact .any _
 have hdlt:∀ d,o.dst=some d→d < a.tmps.size:=fun d hdd=>by
  have:=(Zcb hd rc hmem d (hdst.trans hdd)).2
  have h1:a.tmps.size=s0.nt:=hr.size.trans (Zdz (p:=L) (R:=R) (s:=s0)).1
  rw [h1];exact this
 have behind : ∀ E' u, Z2 P E' (rc.ed ++ (replay L R s0).objs) → Zb7 E (replay L R s0).objs E' (rc.ed ++ (replay L R s0).objs) [] → E.w.drawn ≤ E'.w.drawn → Rep P E' rc.v u →
  (∀ l x,Zs l rc.ed=some x→l=n0+i∨∃ y,Zs l (replay L R s0).objs=some y)→(∀ l x,Zs l rc.ed=some x→l∈rc.ks)→K (a.put o.dst u) E'.w:=by
  intro E' u g st hdr hu hkey hks
  obtain ⟨e1,e2,e3,e4⟩:=Zdz (p:=L) (R:=R) (s:=s0)
  obtain ⟨f1,f2,f3,f4⟩:=Zdz (p:=ZlL L i) (R:=R) (s:=s0)
  have hnone:∀ l,E.loc l=none→l≠n0+i→E'.loc l=none:=fun l hl hne=>by
   have h1:Zs l (replay L R s0).objs=none:=by
    cases h:Zs l (replay L R s0).objs with
    | none=>rfl
    | some x=>obtain ⟨K,hK,_⟩:=hr.good.at_ l x h;rw [hl] at hK;cases hK
   rw [st.dom l ?_]
   ·exact hl
   ·rw [Zcf]
    cases hed:Zs l rc.ed with
    | none=>exact h1
    | some x =>
      rcases hkey l x hed with h | ⟨z,hz⟩
      ·exact absurd h hne
      ·rw [h1] at hz;cases hz
  have hrel:Zcd P cx (rc.app (replay L R s0)) (a.put o.dst u) E':=by
   refine ⟨?_,fun l hl=>?_,?_,Nat.le_trans hr.drawn hdr,?_,?_,fun t=>?_⟩
   ·have:(rc.app (replay L R s0)).objs=rc.ed++(replay L R s0).objs:=by generalize replay L R s0=q;cases q;rfl
    rw [this];exact g
   ·have hl:s0.nx≤l:=by
     have:(rc.app (replay L R s0)).nx=s0.nx:=by
      rw [← e2];generalize replay L R s0=q;cases q;rfl
     rw [this] at hl;exact hl
    exact hnone l (hr.fresh l (by rw [e2];exact hl)) (by omega)
   ·have:(rc.app (replay L R s0)).mv=(replay L R s0).mv:=by generalize replay L R s0=q;cases q;rfl
    rw [this]
    have e:(rc.app (replay L R s0)).objs=rc.ed++(replay L R s0).objs:=by generalize replay L R s0=q;cases q;rfl
    rw [e];simpa using hr.step.trans st
   ·have:(rc.app (replay L R s0)).nt=(replay L R s0).nt:=by generalize replay L R s0=q;cases q;rfl
    rw [this,← hr.size];cases o.dst<;>simp [Act.put]
   ·have:(rc.app (replay L R s0)).df=(replay L R s0).df:=by generalize replay L R s0=q;cases q;rfl
    have e:(a.put o.dst u).defers=a.defers:=by cases o.dst<;>rfl
    rw [this,e];exact hr.df.ext st.ext
   ·rw [ZjO,hdst]
    cases hdd:o.dst with
    | none=>exact (hr.rep t).mono st.ext
    | some d =>
      rw [Zm9 (hdlt d hdd)]
      by_cases e:d=t
      ·subst e;rw [if_pos rfl,if_pos rfl];exact hu
      ·rw [if_neg (fun h=>e (by cases h;rfl)),if_neg e];exact (hr.rep t).mono st.ext
  refine hK _ E' ?_ (fun q hq hqf=>?_)
  ·refine Rel.congr hrel (fun t=>?_) (fun l=>?_) ?_ ?_ ?_ (fun l hl=>?_)
   ·
    rw [ZjO,Zcz,Zcz]
    by_cases e:rc.dst=some t
    ·rw [if_pos e]
     have hq:∀ q∈R,q.dst=some t→q=rc:=fun q hq hqd=>huniq q hq (by
      have h1:=(Zcb hd q hq t hqd).1
      have h2:=(Zcb hd rc hmem t e).1
      exact (Option.some.inj (h1.symm.trans h2)).trans hii)
     have hBn:ZdL (ZlL L i) t B=none:=Zde fun q hqB hqd=>by
      have:=hq q (by rw [hAB];simp [hqB]) hqd
      have h1:=hB q hqB
      rw [this,hii] at h1;omega
     have:ZdL (ZlL L i) t R=some rc.v:=by
      rw [hAB,ZgL]
      simp only [ZdL,hBn]
      rw [if_pos ⟨by simp [ZlL,hii],e⟩]
     rw [this]
    ·rw [if_neg e]
     rw [Zfb (p:=ZlL L i) (q:=L)]
     intro q hq hqd
     have:q.i≠i:=fun h=>e (by rw [← huniq q hq h];exact hqd)
     simp [ZlL,this]
   ·
    rw [ZnR,ZcP,ZcP]
    have other:Zs l rc.ed=none→Zdn (ZlL L i) l R=Zdn L l R:=fun hn=>Zfe fun q hq x hed=>by
     have:q.i≠i:=fun h=>by rw [huniq q hq h,hn] at hed;cases hed
     simp [ZlL,this]
    cases hed:Zs l rc.ed with
    | none=>rw [other hed]
    | some y =>
      simp only
      have hBn:Zdn (ZlL L i) l B=none:=Zji fun q hqB x hqe=>by
       have hqR:q∈R:=by rw [hAB];simp [hqB]
       have h1:=hB q hqB
       rcases hord q hqR l x hqe (hks l y hed) with h | h
       ·have h2:L q.i=false:=by rw [← h];simp;omega
        simp only [ZlL,h2,Bool.false_or,decide_eq_false_iff_not];omega
       ·rw [h,hii] at h1;omega
      have:Zdn (ZlL L i) l R=some y:=by
       rw [hAB,ZgM]
       simp only [Zdn,hBn,hed]
       rw [if_pos (by simp [ZlL,hii])]
      rw [this]
   ·rw [f1,← e1];generalize replay L R s0=q;cases q;rfl
   ·rw [f3,← e3];generalize replay L R s0=q;cases q;rfl
   ·rw [f4,← e4];generalize replay L R s0=q;cases q;rfl
   ·rw [f2] at hl
    exact hnone l (hr.fresh l (by rw [e2];exact hl)) (by omega)
  ·simp only [ZlL,Bool.or_eq_false_iff,decide_eq_false_iff_not] at hqf
   exact hnone _ (hf q hq hqf.1) (by omega)
 obtain ⟨dst,op,ty,po,af,guard⟩:=o
 revert hrc hobj hval
 generalize hcur:replay (fun k=>decide (k < i)) R s0=cur
 obtain ⟨ntc,tmpsc,objsc,nxc,dfc,wrc,dic,mvc⟩:=cur
 intro hobj hval hrc
 simp only [Zui] at hrc
 have hsub:∀ ks:List Nat,(∀ l∈ks,l∈rc.ks)→Sub (ZmM objsc ks) (replay L R s0).objs:=fun ks hks l x h=>by
  obtain ⟨h1,h2⟩:=Zix h
  rw [← hobj l (hks l h1)];exact h2
 have hops:∀ tm:List (Nat×V),tm=Zml T ds i s0.tmps tmpsc op.operands.toList→∀ x,Rep P E (evV tm x) (a.eval x):=fun tm e x=>by
  cases x with
  | tmp t =>
    show Rep P E (Zbb t tm) _
    rw [e]
    rcases Zhu (T:=T) (ds:=ds) (i:=i) (base:=s0.tmps) (cur:=tmpsc) (t:=t) (l:=op.operands.toList) with h | h
    ·rw [h];exact hval t
    ·rw [h];exact .any _
  | const v=>exact Zey v
  | global g=>exact .any _
  | func f=>exact .fn rfl rfl (fun j hj=>by simp at hj) (fun j hj=>by simp at hj)
 have hfi:E.loc (n0+i)=none:=by have:=hf rc hmem (by rw [hii];exact hL);rwa [hii] at this
 unfold wpOpIn
 rw [hi]
 simp only
 split at hrc
 ·rw [if_pos (by simp [Region.wanted])]
  split at hrc
  ·rename_i ob' v es he
   have hrc1:ob'=ob:=by cases hrc;rfl
   have hrc2:=(Prod.mk.inj (Option.some.inj hrc)).2
   subst hrc1
   have hks:∀ l∈Zub op objsc (ksL (Zbx (Zml T ds i s0.tmps tmpsc op.operands.toList) op.operands.toList)),l∈rc.ks:=fun l hl=>by rw [← hrc2];simp [hl]
   have hrv:rc.v=v:=by rw [← hrc2]
   have hre:rc.ed=es:=by rw [← hrc2]
   obtain ⟨hdid,hkeys⟩:=ZnF (r:=r) (a:=a) (o:=⟨dst,op,ty,po,af,none⟩) hτ hκ he (hsub _ hks) ho hr.good hfi (fun x _=>hops _ rfl x)
   refine hdid _ Q (fun E' u k1 k2 kd k3=>?_)
   refine behind E' u (by rw [hre];exact k1) (by rw [hre];exact k2) kd (by rw [hrv];exact k3) (fun l x h=>?_) (fun l x h=>?_)
   ·rw [hre] at h
    rcases hkeys l x h with h | ⟨y,hy⟩
    ·exact .inl h
    ·exact .inr ⟨y,hsub _ hks l y hy⟩
   ·rw [hre] at h
    rw [← hrc2]
    exact List.mem_append_left _ (ZdR h)
  ·cases hrc
 ·rename_i j want
  split at hrc
  ·cases hrc
  ·rename_i gd hgd
   split at hrc
   ·cases hrc
   ·rename_i g hg
    have hw:=Zlp (o:=⟨dst,op,ty,po,af,some (j,want)⟩) rfl hgd hg (hval gd)
    rw [hw]
    have hdec : Zue τ κ dec g i dst op (Zml T ds i s0.tmps tmpsc op.operands.toList) (ZmM objsc (Zub op objsc (ksL (Zbx (Zml T ds i s0.tmps tmpsc op.operands.toList) op.operands.toList)))) (Zub op objsc (ksL (Zbx (Zml T ds i s0.tmps tmpsc op.operands.toList) op.operands.toList))) (n0 + i) = some (ob, rc) →
     if g=true then Oper.wpIn (fz r) 0 P ⟨dst,op,ty,po,af,some (j,want)⟩ a E.w K Q else (∀ (f:FuncId),Oper.about P E.w a.eval ⟨dst,op,ty,po,af,some (j,want)⟩=some f→(fz r).fn f)∧K (a.put dst undef) E.w:=fun hrc=>by
     unfold Zue at hrc
     split at hrc
     ·cases hrc
     ·split at hrc
      ·rw [if_pos rfl]
       split at hrc
       ·rename_i ob' v es he
        have hrc1:Zf1 true (ZgB op (Zml T ds i s0.tmps tmpsc op.operands.toList)) ob'=ob:=by cases hrc;rfl
        have hrc2:=(Prod.mk.inj (Option.some.inj hrc)).2
        have hks:∀ l∈Zub op objsc (ksL (Zbx (Zml T ds i s0.tmps tmpsc op.operands.toList) op.operands.toList)),l∈rc.ks:=fun l hl=>by rw [← hrc2];simp [hl]
        have hrv:rc.v=v:=by rw [← hrc2]
        have hre:rc.ed=es:=by rw [← hrc2]
        have hob:=(ZcG (by rw [hrc1];exact ho) rfl).1
        have kc:=(ZcG (by rw [hrc1];exact ho) rfl).2
        obtain ⟨hdid,hkeys⟩:=ZnF (r:=r) (a:=a) (o:=⟨dst,op,ty,po,af,some (j,want)⟩) hτ hκ he (hsub _ hks) hob hr.good hfi (fun x hx=>ZhM hx (hops _ rfl x) kc)
        refine hdid _ Q (fun E' u k1 k2 kd k3=>?_)
        refine behind E' u (by rw [hre];exact k1) (by rw [hre];exact k2) kd (by rw [hrv];exact k3) (fun l x h=>?_) (fun l x h=>?_)
        ·rw [hre] at h
         rcases hkeys l x h with h | ⟨y,hy⟩
         ·exact .inl h
         ·exact .inr ⟨y,hsub _ hks l y hy⟩
        ·rw [hre] at h
         rw [← hrc2]
         exact List.mem_append_left _ (ZdR h)
       ·cases hrc
      ·rw [if_neg (by simp)]
       have hrc2:=(Prod.mk.inj (Option.some.inj hrc)).2
       have hrv:rc.v=.when false (.d .bool false):=by rw [← hrc2]
       have hre:rc.ed=[]:=by rw [← hrc2]
       exact ⟨fun _ _=>trivial,behind E undef (by rw [hre];exact hr.good) (by rw [hre];exact .refl _ _ _) (Nat.le_refl _) (by rw [hrv];exact .when (fun e=>by cases e) (fun _=>rfl)) (fun l x h=>by rw [hre] at h;cases h) (fun l x h=>by rw [hre] at h;cases h)⟩
    split at hrc
    ·rename_i out he
     generalize hdat:Zsy op out=out' at hrc
     obtain ⟨ob',v,ed⟩:=out'
     simp only at hrc
     split at hrc
     ·rename_i es hed
      have hrc1:Zf1 g (ZgB op (Zml T ds i s0.tmps tmpsc op.operands.toList)) ob'=ob:=by cases hrc;rfl
      have hrc2:=(Prod.mk.inj (Option.some.inj hrc)).2
      have hks:∀ l∈Zub op objsc (ksL (Zbx (Zml T ds i s0.tmps tmpsc op.operands.toList) op.operands.toList)),l∈rc.ks:=fun l hl=>by rw [← hrc2];simp [hl]
      have hrv:rc.v=.when g v:=by rw [← hrc2]
      have hre:rc.ed=es:=by rw [← hrc2]
      have hcase:(ed=none∧es=[])∨(ed=some (n0+i,.dead,false)∧es=[(n0+i,.dead)]):=by
       unfold edG at hed
       split at hed
       ·cases hed;exact .inl ⟨rfl,rfl⟩
       ·split at hed
        ·rename_i l hb
         cases hed
         rw [Nat.eq_of_beq_eq_true hb]
         exact .inr ⟨rfl,rfl⟩
        ·cases hed
       ·cases hed
      have hkey:∀ l x,Zs l rc.ed=some x→l=n0+i∨∃ y,Zs l (replay L R s0).objs=some y:=fun l x h=>by
       rw [hre] at h
       rcases hcase with ⟨_,rfl⟩ | ⟨_,rfl⟩
       ·cases h
       ·rw [Zm] at h
        split at h
        ·rename_i e;exact .inl e.symm
        ·cases h
      have hksr:∀ l x,Zs l rc.ed=some x→l∈rc.ks:=fun l x h=>by
       rw [hre] at h
       rw [← hrc2]
       exact List.mem_append_left _ (ZdR h)
      cases g with
      | true =>
        rw [if_pos rfl]
        have hob:okP (Zsy op out).ob:=by
         rw [hdat]
         exact (ZcG (by rw [hrc1];exact ho) rfl).1
        have kc:=(ZcG (by rw [hrc1];exact ho) rfl).2
        have hd0:=Zha (r:=r) (a:=a) (o:=⟨dst,op,ty,po,af,some (j,want)⟩) hτ hκ he (hsub _ hks) (by rw [← ZpZ op out];exact hob) hr.good hfi (fun x hx=>ZhM hx (hops _ rfl x) kc)
        have hd1:=Znl op hd0
        rw [hdat] at hd1
        refine hd1 _ Q (fun E' u k1 k2 kd k3=>?_)
        refine behind E' u ?_ ?_ kd (by rw [hrv];exact .when (fun _=>k3) (fun e=>by cases e)) hkey hksr
        ·rw [hre]
         rcases hcase with ⟨rfl,rfl⟩ | ⟨rfl,rfl⟩
         ·exact k1
         ·exact k1
        ·rw [hre]
         rcases hcase with ⟨rfl,rfl⟩ | ⟨rfl,rfl⟩
         ·exact k2
         ·exact k2
      | false =>
        rw [if_neg (by simp)]
        refine ⟨fun _ _=>trivial,?_⟩
        rcases hcase with ⟨rfl,rfl⟩ | ⟨rfl,rfl⟩
        ·exact behind E undef (by rw [hre];exact hr.good) (by rw [hre];exact .refl _ _ _) (Nat.le_refl _) (by rw [hrv];exact .when (fun e=>by cases e) (fun _=>rfl)) hkey hksr
        ·have ha:=hr.good.adopt (n:=n0+i) (K:=⟨0,none,0,0,0⟩) (o:=.dead) hfi trivial (fun h=>h.elim)
         exact behind (E.setL E.w (n0+i) ⟨0,none,0,0,0⟩) undef (by rw [hre];exact ha.1) (by rw [hre];exact ha.2 E _ [] (.refl _ _ _) (fun h=>h.elim)) (Nat.le_refl _) (by rw [hrv];exact .when (fun e=>by cases e) (fun _=>rfl)) hkey hksr
     ·exact hdec hrc
    ·exact hdec hrc
end Go.Proofs.YtgpdnmfpgkkgcaaGreatDoor
namespace Go.Proofs.YtgpdnmfpgkkgcaaGreatDoor
open Go
set_option linter.unusedVariables false
variable {P:Program} {τ:Zaj} {κ:Z0} {φ:Nat→Option FX}
def ZrC:Nat→List Nat→Bool
 | 0,_=>true
 | n+1,l=>match Zdq n l with
   | true=>ZrC n l
   | false=>false
theorem ZlQ {l:List Nat}:∀ {n:Nat},ZrC n l=true→∀ j,j < n→j∈l
 | 0,_,j,h=>absurd h (by omega)
 | n+1,h,j,hj=>by
   simp only [ZrC] at h
   split at h
   ·rename_i h1
    by_cases e:j=n
    ·subst e;exact Zbd.1 h1
    ·exact ZlQ h j (by omega)
   ·cases h
def Zkz (T:List (Nat×List Nat)) (p:Nat):Nat→Nat→Bool
 | _,0=>true
 | i,c+1=>match ZrC p (Zes i T) with
   | true=>Zkz T p (i+1) c
   | false=>false
theorem ZhA {T:List (Nat×List Nat)} {p:Nat}:∀ {c i:Nat},Zkz T p i c=true→∀ j,i≤j→j < i+c→∀ k,k < p→k∈Zes j T
 | 0,i,_,j,h1,h2,_,_=>absurd h2 (by omega)
 | c+1,i,h,j,h1,h2,k,hk=>by
   simp only [Zkz] at h
   split at h
   ·rename_i hb
    by_cases e:j=i
    ·subst e;exact ZlQ hb k hk
    ·exact ZhA h j (by omega) (by omega) k hk
   ·cases h
def ZuF:Nat→List Oper→List (Nat×Nat)
 | _,[]=>[]
 | i,⟨some d,_,_,_,_,_⟩::r=>(d,i)::ZuF (i+1) r
 | i,_::r=>ZuF (i+1) r
def Zjn {α:Type}:Nat→List α→List α×List α
 | 0,l=>([],l)
 | n+1,[]=>([],[])
 | n+1,x::l=>match Zjn n l with
   | (a,b)=>(x::a,b)
def Zlo (τ:Zaj) (κ:Z0) (dec:Bool) (T:List (Nat×List Nat)) (ops:List Oper) (n p:Nat) (seg:List Oper) (s:St) (k:St→Prop):Prop:=match s with
 | ⟨nt,tmps,objs,nx,df,wr,di,mv⟩=>match Zjf τ κ dec T (ZuF p seg) ops nx tmps p seg ⟨nt,tmps,objs,nx+n,df,wr,di,mv⟩ with
   | none=>False
   | some (obs,R,s')=>match ZqO T R with
     | false=>False
     | true=>match ZhF nt (ZuF p seg) R with
       | false=>False
       | true=>ZvN obs (k s')
def ZsI (ops:List Oper):List Oper→Option Nat
 | []=>none
 | ⟨_,_,_,_,_,some (j,_)⟩::_=>Zvg ops j
 | _::r=>ZsI ops r
def Zvo (t:Nat) (b:Bool) (s:St):St:=match s with
 | ⟨nt,tmps,objs,nx,df,wr,di,mv⟩=>⟨nt,(t,.d .bool b)::tmps,objs,nx,df,t::wr,di,mv⟩
def ZpM (τ:Zaj) (κ:Z0) (T:List (Nat×List Nat)) (ops:List Oper) (n p:Nat) (seg:List Oper) (s:St) (k:St→Prop):Prop:=match s with
 | ⟨nt,tmps,objs,nx,df,wr,di,mv⟩=>match Zjf τ κ false T (ZuF p seg) ops nx tmps p seg ⟨nt,tmps,objs,nx+n,df,wr,di,mv⟩ with
   | some _=>Zlo τ κ false T ops n p seg ⟨nt,tmps,objs,nx,df,wr,di,mv⟩ k
   | none=>match ZsI ops seg with
     | none=>False
     | some t=>match Zbb t tmps with
       | .d .bool b=>cond b (Zlo τ κ true T ops n p seg (Zvo t true ⟨nt,tmps,objs,nx,df,wr,di,mv⟩) k) (Zlo τ κ true T ops n p seg (Zvo t false ⟨nt,tmps,objs,nx,df,wr,di,mv⟩) k)
       | _=>False
theorem ZtB {cx:Cx} {s:St} {t:Nat} {b:Bool} (hv:Zbb t s.tmps=.d .bool b) {a:Act} {w:World} (r:Rel P cx s a w):Inv s (Zvo t b s)∧Rel P cx (Zvo t b s) a w:=by
 obtain ⟨nt,tmps,objs,nx,df,wr,di,mv⟩:=s
 obtain ⟨E,rfl,r1⟩:=r
 have hl:∀ u,Zbb u ((t,V.d .bool b)::tmps)=Zbb u tmps:=fun u=>by
  rw [Z9]
  split
  ·rename_i e;rw [← e];exact hv.symm
  ·rfl
 refine ⟨⟨rfl,Nat.le_refl _,fun _ h=>List.mem_cons_of_mem _ h,fun _ h=>h,fun _ h=>h,fun u hu=>hl u,fun _ _=>rfl,fun _=>rfl⟩,E,rfl,r1.good,r1.fresh,r1.step,r1.drawn,r1.size,r1.df,fun u=>?_⟩
 show Rep P E (Zbb u ((t,V.d .bool b)::tmps)) _
 rw [hl];exact r1.rep u
theorem Zo0 {cx : Cx} {T : List (Nat × List Nat)} {ops : List Oper} {n p : Nat} {seg : List Oper} {s : St} {k : St → Prop} (h : ZpM τ κ T ops n p seg s k) {a : Act} {w : World} (r : Rel P cx s a w) :
 ∃ dec s1,Inv s s1∧Rel P cx s1 a w∧Zlo τ κ dec T ops n p seg s1 k:=by
 obtain ⟨nt,tmps,objs,nx,df,wr,di,mv⟩:=s
 unfold ZpM at h
 simp only at h
 split at h
 ·exact ⟨false,_,.refl _,r,h⟩
 ·split at h
  ·exact h.elim
  ·rename_i t _
   split at h
   ·rename_i b hv
    obtain ⟨h1,h2⟩:=ZtB (P:=P) (cx:=cx) (s:=⟨nt,tmps,objs,nx,df,wr,di,mv⟩) hv r
    cases b with
    | true=>exact ⟨true,_,h1,h2,h⟩
    | false=>exact ⟨true,_,h1,h2,h⟩
   ·exact h.elim
def ZoL (τ:Zaj) (κ:Z0) (X:XT) (T:List (Nat×List Nat)) (ops:List Oper) (n:Nat):List Nat→Nat→List Oper→St→(St→Prop)→Prop
 | [],p,rest,s,k=>match rest with
   | []=>k s
   | _=>False
 | q::qs,p,rest,s,k=>match Zkz T q q (n - q) with
   | false=>False
   | true=>match Nat.beq q (p+1) with
     | true=>match rest with
       | []=>False
       | o::r=>ZkT τ κ X ops [o] [] s (fun s'=>ZoL τ κ X T ops n qs q r s' k)
     | false=>match Zjn (q - p) rest with
       | (seg,r)=>match Nat.beq (p+seg.length) q with
         | false=>False
         | true=>ZpM τ κ T ops n p seg s (fun s'=>ZoL τ κ X T ops n qs q r s' k)
theorem Zif {α:Type}:∀ {n:Nat} {l:List α},(Zjn n l).1=l.take n∧(Zjn n l).2=l.drop n
 | 0,l=>⟨rfl,rfl⟩
 | n+1,[]=>⟨rfl,rfl⟩
 | n+1,x::l=>by
   have:=Zif (n:=n) (l:=l)
   simp only [Zjn,List.take_succ_cons,List.drop_succ_cons]
   exact ⟨by rw [this.1],this.2⟩
theorem Inv.app (r:Rc) (s:St):Inv s (r.app s):=by
 obtain ⟨i,dst,v,ed,ks⟩:=r
 obtain ⟨nt,tmps,objs,nx,df,wr,di,mv⟩:=s
 refine ⟨rfl,Nat.le_refl _,fun t ht=>?_,fun l hl=>?_,fun _ h=>h,fun t ht=>?_,fun l hl=>?_,fun _=>rfl⟩
 ·cases dst with
  | none=>exact ht
  | some d=>exact List.mem_cons_of_mem _ ht
 ·exact List.mem_append_right _ hl
 ·cases dst with
  | none=>rfl
  | some d =>
    have ht:t∉d::wr:=ht
    simp only [List.mem_cons,not_or] at ht
    show Zbb t ((d,v)::tmps)=_
    rw [Z9,if_neg (Ne.symm ht.1)]
 ·have hl:l∉ZlJ ed++di:=hl
  simp only [List.mem_append,not_or] at hl
  show Zs l (ed++objs)=_
  rw [Zcf]
  cases h:Zs l ed with
  | none=>rfl
  | some o=>exact absurd (ZdR h) hl.1
theorem Inv.replay (p:Nat→Bool):∀ (R:List Rc) (s:St),Inv s (replay p R s)
 | [],s=>.refl s
 | r::rs,s=>by
   simp only [YtgpdnmfpgkkgcaaGreatDoor.replay]
   split
   ·exact (Inv.app r s).trans (Inv.replay p rs _)
   ·exact Inv.replay p rs s
def Bd (n p:Nat) (listed:Array Bool):Prop:=listed.size=n∧∀ j,j < n→listed.getD j false=decide (j < p)
def cnt (n:Nat) (listed:Array Bool):Nat:=((List.range n).filter fun j=>!listed.getD j false).length
theorem Ztd {p p':Nat→Bool} {i:Nat} (hi:p i=true) (hi':p' i=false) (hp:∀ j,p' j=true→p j=true):∀ {l:List Nat},i∈l→(l.filter p').length < (l.filter p).length:=by
 have hle:∀ l:List Nat,(l.filter p').length≤(l.filter p).length:=by
  intro l
  induction l with
  | nil=>simp
  | cons x l ih =>
    simp only [List.filter_cons]
    split
    ·rename_i h;rw [if_pos (hp x h)];simpa using ih
    ·split
     ·simp;omega
     ·exact ih
 intro l h
 induction l with
 | nil=>cases h
 | cons x l ih =>
   simp only [List.filter_cons]
   rcases List.mem_cons.1 h with rfl | h
   ·rw [if_pos hi,if_neg (by rw [hi'];simp)]
    have:=hle l
    simp;omega
   ·have:=ih h
    split
    ·rename_i h';rw [if_pos (hp x h')];simpa using this
    ·split
     ·simp;omega
     ·exact this
theorem Zdx {listed:Array Bool} {i j:Nat} (hi:i < listed.size):(listed.setIfInBounds i true).getD j false=(listed.getD j false||decide (j=i)):=by
 by_cases e:j=i
 ·subst e
  simp [Array.getD_eq_getD_getElem?,hi]
 ·rw [getD_set_ne false (Ne.symm e)];simp [e]
theorem Zqo {n i:Nat} {listed:Array Bool} (hs:listed.size=n) (hi:i < n) (hl:listed.getD i false=false):cnt n (listed.setIfInBounds i true) < cnt n listed:=by
 refine Ztd (i:=i) (by simp only [hl];rfl) (by rw [Zdx (by omega)];simp) (fun j hj=>?_) (List.mem_range.2 hi)
 rw [Zdx (by omega)] at hj
 cases h:listed.getD j false with
 | false=>rfl
 | true=>rw [h] at hj;cases hj
def ZuA (T:List (Nat×List Nat)) (n:Nat) (listed:Array Bool):Prop:=∀ i,i < n→listed.getD i false=true→∀ j∈Zes i T,listed.getD j false=true
theorem Zgk {ops:Array Oper} {T:List (Nat×List Nat)} (hT:PT ops T) {listed:Array Bool} (hd:ZuA T ops.size listed) {i:Nat} (hi:i∈Region.ready .any ops listed):i < ops.size∧listed.getD i true=false∧∀ j∈Zes i T,listed.getD j false=true:=by
 obtain ⟨h1,o,h2,h3⟩:=mem_ready.1 hi
 have hlt:i < ops.size:=(Array.getElem?_eq_some_iff.1 h2).1
 refine ⟨hlt,h1,fun j hj=>?_⟩
 obtain ⟨e,he,hb,hor⟩:=hT.back i o j h2 hj
 have hon:=h3 e he hb
 rcases hor with h | h
 ·rw [← h];exact hon
 ·exact hd e.on (Nat.lt_trans (hT.lt i e.on hlt (hT.edge i o e h2 he hb)) hlt) hon j h
theorem ZfV {listed:Array Bool} {n j:Nat} (hs:listed.size=n) (hj:j < n):listed.getD j true=listed.getD j false:=by
 rw [Array.getD_eq_getD_getElem?,Array.getD_eq_getD_getElem?,Array.getElem?_eq_getElem (by omega)];rfl
theorem Znq {ops:Array Oper} {T:List (Nat×List Nat)} (hT:PT ops T) {listed:Array Bool} (hs:listed.size=ops.size):∀ i,i < ops.size→listed.getD i false=false→Region.ready .any ops listed≠[]:=by
 intro i
 induction i using Nat.strongRecOn with
 | _ i ih =>
   intro hi hl hn
   have:i∈Region.ready .any ops listed:=mem_ready.2 ⟨by rw [ZfV hs hi];exact hl,ops[i],Array.getElem?_eq_getElem hi,fun e he hb=>by
    have hlt:=hT.lt i e.on hi (hT.edge i ops[i] e (Array.getElem?_eq_getElem hi) he hb)
    cases h:listed.getD e.on false with
    | true=>rfl
    | false=>exact absurd hn (ih e.on hlt (by omega) h)⟩
   rw [hn] at this
   cases this
theorem ZpF {ops:Array Oper} {T:List (Nat×List Nat)} (hT:PT ops T) {p:Nat} {listed:Array Bool} (h:Bd ops.size p listed):ZuA T ops.size listed:=fun i hi hl j hj=>by
 have h1:=h.2 i hi
 rw [hl] at h1
 have h2:=hT.lt i j hi hj
 have h3:i < p:=by simpa using h1.symm
 rw [h.2 j (by omega)]
 simp;omega
theorem ZrR {ops:Array Oper} {T:List (Nat×List Nat)} (hT:PT ops T) {listed:Array Bool} (hs:listed.size=ops.size) (hd:ZuA T ops.size listed) {i:Nat} (hi:i∈Region.ready .any ops listed):ZuA T ops.size (listed.setIfInBounds i true):=fun j hj hl k hk=>by
 obtain ⟨h1,h2,h3⟩:=Zgk hT hd hi
 rw [Zdx (by omega)] at hl ⊢
 rcases Bool.or_eq_true_iff.1 hl with h | h
 ·rw [hd j hj h k hk];rfl
 ·have:j=i:=by simpa using h
  subst this
  rw [h3 k hk];rfl
end Go.Proofs.YtgpdnmfpgkkgcaaGreatDoor
namespace Go.Proofs.YtgpdnmfpgkkgcaaGreatDoor
open Go
set_option linter.unusedVariables false
variable {P:Program} {τ:Zaj} {κ:Z0} {φ:Nat→Option FX}
theorem Zur {F:Fence} {n:Nat} {o:Oper} {a:Act} {w:World} {K:Act→World→Prop} {Q Q':ZiC} (h:∀ c a w,Q' (.panic c) a w→Q (.panic c) a w) (h2:LetsOut Q'→LetsOut Q) (hh:o.wpIn F n P a w K Q'):o.wpIn F n P a w K Q:=by
 unfold Oper.wpIn at *
 refine ⟨hh.1,?_⟩
 have hh:=hh.2
 generalize (o.semAt F.round a.eval).run P w=r at *
 cases r with
 | ok x w' =>
   cases x<;>simp only [Oper.uponIn] at hh ⊢ <;>
    first
     | exact hh
     | exact ⟨hh.1,CallsIn.mono hh.2 (fun e w'' he=>by cases e<;>first | exact h _ _ _ he | exact h2 he | exact he)⟩
     | exact ⟨hh.1,RowsIn.mono hh.2 (fun _ _ he=>he)⟩
     | exact ⟨hh.1,RoundIn.mono hh.2 (fun e w'' he=>by cases e<;>first | exact h _ _ _ he | exact h2 he | exact he)⟩
 | halt x w'=>cases x<;>simp only [Oper.uponIn] at hh ⊢<;>first | exact hh | exact h _ _ _ hh
theorem Zsb {F:Fence} {n:Nat} {ops:Array Oper} {i:Nat} {a:Act} {w:World} {K:Act→World→Prop} {Q Q':ZiC} (h:∀ c a w,Q' (.panic c) a w→Q (.panic c) a w) (h2:LetsOut Q'→LetsOut Q) (hh:wpOpIn F n P ops Q' i K a w):wpOpIn F n P ops Q i K a w:=by
 unfold wpOpIn at *
 split
 ·rename_i ho;rw [ho] at hh;exact hh
 ·rename_i o ho
  rw [ho] at hh
  simp only at hh
  split
  ·rename_i hw;rw [if_pos hw] at hh;exact Zur h h2 hh
  ·rename_i hw;rw [if_neg hw] at hh;exact hh
theorem Zkx (hτ : Za8 P τ) (hκ : Zag P κ) {r : Option Nat} {cx : Cx} {X : XT} (hX : XOk P r cx X) {ops : Array Oper} {T : List (Nat × List Nat)} (hT : PT ops T) {Q : ZiC} :
 ∀ (qs:List Nat) (p:Nat) (rest:List Oper) (s:St) (k:St→Prop),rest=ops.toList.drop p→p≤ops.size→(∀ i,p≤i→i < ops.size→∀ j,j < p→j∈Zes i T)→ZoL τ κ X T ops.toList ops.size qs p rest s k →
  ∀ (fuel:Nat) (listed:Array Bool) (a:Act) (w:World),Bd ops.size p listed→cnt ops.size listed≤fuel→Rel P cx s a w→(∀ s' a' w',Inv s s'→k s'→Rel P cx s' a' w'→Q .normal a' w')→wpAnyIn (fz r) 0 P .any ops Q fuel listed a w
 | [],p,rest,s,k,hrest,hps,hbd,h,fuel,listed,a,w,hB,hc,hr,hk=>by
   simp only [ZoL] at h
   split at h
   ·have hp:p=ops.size:=by
     have:(ops.toList.drop p).length=0:=by rw [← hrest];rfl
     simp at this;omega
    have hrd:Region.ready .any ops listed=[]:=by
     refine List.eq_nil_iff_forall_not_mem.2 fun i hi=>?_
     obtain ⟨h1,o,h2,_⟩:=mem_ready.1 hi
     have hlt:i < ops.size:=(Array.getElem?_eq_some_iff.1 h2).1
     rw [ZfV hB.1 hlt,hB.2 i hlt,hp] at h1
     simp at h1;omega
    have hq:=hk s a w (.refl s) h hr
    cases fuel with
    | zero=>exact ⟨hrd,hq⟩
    | succ f=>exact ⟨fun _=>hq,fun i hi=>by rw [hrd] at hi;cases hi⟩
   ·exact h.elim
 | q::qs,p,rest,s,k,hrest,hps,hbd,h,fuel,listed,a,w,hB,hc,hr,hk=>by
   simp only [ZoL] at h
   split at h
   ·exact h.elim
   ·rename_i hall
    have hbq:q≤ops.size→∀ i,q≤i→i < ops.size→∀ j,j < q→j∈Zes i T:=fun hq i h1 h2 j hj=>ZhA hall i h1 (by omega) j hj
    split at h
    ·
     rename_i hqp
     have hqp:=Nat.eq_of_beq_eq_true hqp
     split at h
     ·exact h.elim
     ·rename_i o rst
      have hop:ops[p]?=some o:=by
       have:ops.toList[p]?=some o:=by
        have:=List.getElem?_drop (xs:=ops.toList) (i:=p) (j:=0)
        rw [← hrest] at this
        simpa using this.symm
       simpa using this
      have hlt:p < ops.size:=(Array.getElem?_eq_some_iff.1 hop).1
      have hrst:rst=ops.toList.drop q:=by
       have:=congrArg (List.drop 1) hrest
       rw [hqp];simpa [List.drop_drop] using this
      have hun:listed.getD p false=false:=by rw [hB.2 p hlt];simp
      have hB':Bd ops.size q (listed.setIfInBounds p true):=⟨by simpa using hB.1,fun j hj=>by
       rw [Zdx (by rw [hB.1];exact hlt),hB.2 j hj,hqp]
       by_cases e:j=p
       ·subst e;simp
       ·have:(j < p+1)=(j < p):=by apply propext;omega
        simp [e,this]⟩
      have hcs:=Zqo hB.1 hlt hun
      cases fuel with
      | zero=>omega
      | succ f =>
        refine ⟨fun hn=>absurd hn (Znq hT hB.1 p hlt hun),fun i hi=>?_⟩
        obtain ⟨h1,h2,h3⟩:=Zgk hT (ZpF hT hB) hi
        have hip:i=p:=by
         rw [ZfV hB.1 h1,hB.2 i h1] at h2
         have h2:p≤i:=by simpa using h2
         by_cases e:i=p
         ·exact e
         ·have:=h3 p (hbq (by omega) i (by omega) h1 p (by omega))
          rw [hun] at this;cases this
        subst hip
        have:=ZmW (Q:=fun e a w=>match e with | .normal=>wpAnyIn (fz r) 0 P .any ops Q f (listed.setIfInBounds i true) a w | e=>Q e a w) hτ hκ hX (ops:=ops) (l:=[o]) (is:=[i]) (by simp [hop]) h hr
         (fun s' a' w' hi' hq' hr'=>Zkx hτ hκ hX hT qs q rst s' k hrst (by omega) (hbq (by omega)) hq' f _ a' w' hB' (by omega) hr' (fun s'' a'' w'' hj hq'' hr''=>hk s'' a'' w'' (hi'.trans hj) hq'' hr''))
        rw [wpOpsIn_cons] at this
        exact Zsb (fun c a w h=>h) (fun ⟨a,w,h⟩=>⟨a,w,h⟩) this
    ·
     generalize hsp:Zjn (q - p) rest=sr at h
     obtain ⟨seg,rst⟩:=sr
     simp only at h
     have hseg:seg=rest.take (q - p):=by rw [← (Zif (n:=q - p) (l:=rest)).1,hsp]
     have hrst:rst=rest.drop (q - p):=by rw [← (Zif (n:=q - p) (l:=rest)).2,hsp]
     split at h
     ·exact h.elim
     ·rename_i hlen
      have hlen:=Nat.eq_of_beq_eq_true hlen
      obtain ⟨dec,s1,hi1,hr,h⟩:=Zo0 h hr
      replace hk:∀ s' a' w',Inv s1 s'→k s'→Rel P cx s' a' w'→Q .normal a' w':=fun s' a' w' hi=>hk s' a' w' (hi1.trans hi)
      obtain ⟨nt,tmps,objs,nx,df,wr,di,mv⟩:=s1
      unfold Zlo at h
      simp only at h
      split at h
      ·exact h.elim
      ·rename_i obs R s' hg
       split at h
       ·exact h.elim
       ·rename_i hpairs
        split at h
        ·exact h.elim
        ·rename_i hds
         obtain ⟨hobs,hrec⟩:=Znu h
         obtain ⟨k0,k1,k2,k3⟩:=Zi9 (R0:=[]) (s0:=⟨nt,tmps,objs,nx+ops.size,df,wr,di,mv⟩) hg (fun _ h=>by simp at h) rfl
         simp only [List.nil_append] at k2 k3
         have hqs:q≤ops.size:=by
          have:seg.length≤rest.length:=by rw [hseg,List.length_take];exact Nat.min_le_right _ _
          have h2:rest.length=ops.size - p:=by rw [hrest,List.length_drop,Array.length_toList]
          omega
         have hsget:∀ j o,seg[j]?=some o→ops[p+j]?=some o:=fun j o hj=>by
          rw [hseg,List.getElem?_take] at hj
          split at hj
          ·rw [hrest,List.getElem?_drop] at hj;simpa using hj
          ·cases hj
         have hrst':rst=ops.toList.drop q:=by
          rw [hrst,hrest,List.drop_drop]
          congr 1
          omega
         have hRlt:∀ r∈R,r.i < ops.size:=fun r hr=>by have:=k1 r hr;omega
         have hinv0:Inv ⟨nt,tmps,objs,nx,df,wr,di,mv⟩ ⟨nt,tmps,objs,nx+ops.size,df,wr,di,mv⟩:=⟨rfl,by simp,fun _ h=>h,fun _ h=>h,fun _ h=>h,fun _ _=>rfl,fun _ _=>rfl,fun _=>rfl⟩
         have key : ∀ (fuel : Nat) (listed : Array Bool) (a : Act) (E : Env), listed.size = ops.size → ZuA T ops.size listed → (∀ j, j < p → listed.getD j false = true) → (∀ j, j < ops.size → q ≤ j → listed.getD j false = false) → cnt ops.size listed ≤ fuel →
          Zcd P cx (replay (fun j=>listed.getD j false) R ⟨nt,tmps,objs,nx+ops.size,df,wr,di,mv⟩) a E→(∀ r∈R,listed.getD r.i false=false→E.loc (nx+r.i)=none)→wpAnyIn (fz r) 0 P .any ops Q fuel listed a E.w:=by
          intro fuel
          induction fuel with
          | zero =>
            intro listed a E hs hd hlo hhi hc hr hf
            have hall':∀ j,j < ops.size→listed.getD j false=true:=fun j hj=>by
             cases hl:listed.getD j false with
             | true=>rfl
             | false =>
               have hm:j∈(List.range ops.size).filter fun j=>!listed.getD j false:=List.mem_filter.2 ⟨List.mem_range.2 hj,by simp only [hl];rfl⟩
               rw [List.eq_nil_of_length_eq_zero (Nat.le_zero.1 hc)] at hm
               cases hm
            have hBq:Bd ops.size q listed:=⟨hs,fun j hj=>by
             rw [hall' j hj]
             by_cases e:j < q
             ·simp [e]
             ·have:=hhi j hj (by omega);rw [hall' j hj] at this;cases this⟩
            refine Zkx hτ hκ hX hT qs q rst s' k hrst' hqs (hbq hqs) hrec 0 listed a E.w hBq hc ?_ (fun s'' a'' w'' hj hq'' hr''=>hk s'' a'' w'' ((hinv0.trans (by rw [k2];exact Inv.replay _ _ _)).trans hj) hq'' hr'')
            refine ⟨E,rfl,?_⟩
            rw [k2,Zci (p:=fun _=>true) (q:=fun j=>listed.getD j false)]
            ·exact hr
            ·intro r hr;exact (hall' r.i (hRlt r hr)).symm
          | succ f ih =>
            intro listed a E hs hd hlo hhi hc hr hf
            by_cases hfull:∀ j,p≤j→j < q→listed.getD j false=true
            ·have hBq:Bd ops.size q listed:=⟨hs,fun j hj=>by
              by_cases e:j < q
              ·by_cases e2:j < p
               ·rw [hlo j e2];simp [e]
               ·rw [hfull j (by omega) e];simp [e]
              ·rw [hhi j hj (by omega)];simp [e]⟩
             refine Zkx hτ hκ hX hT qs q rst s' k hrst' hqs (hbq hqs) hrec (f+1) listed a E.w hBq hc ?_ (fun s'' a'' w'' hj hq'' hr''=>hk s'' a'' w'' ((hinv0.trans (by rw [k2];exact Inv.replay _ _ _)).trans hj) hq'' hr'')
             refine ⟨E,rfl,?_⟩
             rw [k2,Zci (p:=fun _=>true) (q:=fun j=>listed.getD j false)]
             ·exact hr
             ·intro r hr
              have:=k1 r hr
              exact (hfull r.i this.1 (by omega)).symm
            ·have:∃ j,p≤j∧j < q∧listed.getD j false=false:=by
              refine Classical.byContradiction fun hn=>hfull fun j h1 h2=>?_
              cases hl:listed.getD j false with
              | true=>rfl
              | false=>exact absurd ⟨j,h1,h2,hl⟩ hn
             obtain ⟨j,hj1,hj2,hj3⟩:=this
             refine ⟨fun hn=>absurd hn (Znq hT hs j (by omega) hj3),fun i hi=>?_⟩
             obtain ⟨h1,h2,h3⟩:=Zgk hT hd hi
             rw [ZfV hs h1] at h2
             have hip:p≤i:=by
              refine Nat.le_of_not_lt fun hlt=>?_
              rw [hlo i hlt] at h2;cases h2
             have hiq:i < q:=by
              refine Nat.lt_of_not_le fun hle=>?_
              have:=h3 j (hbq hqs i hle h1 j hj2)
              rw [hj3] at this;cases this
             obtain ⟨o,ho⟩:∃ o,seg[i - p]?=some o:=⟨seg[i - p],List.getElem?_eq_getElem (by omega)⟩
             have hio:=hsget _ _ ho
             rw [show p+(i - p)=i from by omega] at hio
             obtain ⟨ob,rc,m1,m2,m3⟩:=k3 _ _ ho
             rw [show p+(i - p)=i from by omega] at m1
             refine Zsf (L:=fun j=>listed.getD j false) (n0:=nx) hτ hκ hT hio m1 (hobs ob m2) m3 k0 hpairs hds hRlt rfl h2 (fun q hq hl j hj _=>hd q.i (hRlt q hq) hl j hj) (fun j hj _=>h3 j hj) hr hf (fun a' E' hr' hf'=>?_)
             have hset:∀ j,(listed.setIfInBounds i true).getD j false=ZlL (fun j=>listed.getD j false) i j:=fun j=>by rw [Zdx (by omega)];rfl
             refine ih (listed.setIfInBounds i true) a' E' (by simpa using hs) (ZrR hT hs hd hi) (fun j hj=>?_) (fun j hj hqj=>?_) ?_ ?_ (fun q hq hl=>hf' q hq (by rw [← hset];exact hl))
             ·rw [Zdx (by omega),hlo j hj];rfl
             ·rw [Zdx (by omega),hhi j hj hqj];simp;omega
             ·have:=Zqo hs h1 h2;omega
             ·rw [Zci (p:=fun j=>(listed.setIfInBounds i true).getD j false) (q:=ZlL (fun j=>listed.getD j false) i)]
              ·exact hr'
              ·intro r _;exact hset r.i
         obtain ⟨E,rfl,r1⟩:=hr
         refine key fuel listed a E hB.1 (ZpF hT hB) (fun j hj=>by rw [hB.2 j (by omega)];simpa using hj) (fun j hj hqj=>?_) hc ?_ (fun r hr _=>r1.fresh _ (by show nx≤nx+r.i;omega))
         ·have hqp:p≤q:=by omega
          rw [hB.2 j hj];simp;omega
         ·rw [Zfd]
          ·exact ⟨r1.good,fun l hl=>r1.fresh l (by have:nx+ops.size≤l:=hl;show nx≤l;omega),r1.step,r1.drawn,r1.size,r1.df,r1.rep⟩
          ·intro r hr
           have:=k1 r hr
           rw [hB.2 r.i (hRlt r hr)];simp;omega
def ZuR (l:List Nat):Nat→Nat→Nat
 | 0,k=>k
 | f+1,k=>match Zdq k l with
   | true=>ZuR l f (k+1)
   | false=>k
def ZpV (T:List (Nat×List Nat)):Nat→Nat→Nat→List Nat→List Nat
 | 0,_,_,acc=>acc
 | i+1,n,m,acc=>match ZuR (Zes i T) n 0 with
   | k=>match Nat.ble k m with
     | true=>match Nat.ble i k with
       | true=>match i with
         | 0=>acc
         | j+1=>ZpV T i n k (i::acc)
       | false=>ZpV T i n k acc
     | false=>match Nat.ble i m with
       | true=>match i with
         | 0=>acc
         | j+1=>ZpV T i n m (i::acc)
       | false=>ZpV T i n m acc
def Zsm (τ:Zaj) (κ:Z0) (X:XT) (l:List Oper) (s:St) (k:St→Prop):Prop:=match l.length with
 | n=>match ZuG 0 l [] with
   | T=>match Zk4 T 0 l with
     | false=>False
     | true=>match ZpV T n n n [n] with
       | qs=>ZoL τ κ X T l n qs 0 l s k
theorem Rel.drawn {cx:Cx} {s:St} {a:Act} {w:World} (h:Rel P cx s a w):Rel P cx s a { w with drawn:=w.drawn+1 }:=by
 obtain ⟨E,rfl,r⟩:=h
 obtain ⟨g,st⟩:=r.good.at (w:={ E.w with drawn:=E.w.drawn+1 }) rfl (Nat.le_succ _) rfl rfl rfl
 exact ⟨E.at _,rfl,g,r.fresh,by simpa using r.step.trans st,Nat.le_trans r.drawn (Nat.le_succ _),r.size,r.df.ext st.ext,fun t=>(r.rep t).mono st.ext⟩
theorem Zsg (hτ : Za8 P τ) (hκ : Zag P κ) (hm : P.follows .mixedOrders = true) {r : Option Nat} {cx : Cx} {X : XT} (hX : XOk P r cx X) {id : Nat} {ops : Array Oper} {s : St} {k : St → Prop} {R : ZiC} (h : Zsm τ κ X ops.toList s k) {a : Act} {w : World} (hr : Rel P cx s a w)
 (hk:∀ s' a' w',Inv s s'→k s'→Rel P cx s' a' w'→R .normal a' w'):(Code.region id ops true).wpIn (fz r) 0 P R a w:=by
 refine wpIn_region_any hm ?_
 unfold Zsm at h
 simp only at h
 split at h
 ·exact h.elim
 ·rename_i hp
  refine Zkx hτ hκ hX (PT.of hp) _ 0 _ s k rfl (Nat.zero_le _) (fun i _ _ j hj=>absurd hj (by omega)) (by simpa using h) _ _ a _ ⟨by simp,fun j hj=>?_⟩ ?_ hr.drawn hk
  ·simp [Array.getD_eq_getD_getElem?,hj]
  ·refine Nat.le_trans (List.length_filter_le _ _) (by simp)
theorem ZrL (hτ:Za8 P τ) (hκ:Zag P κ) (hm:P.follows .mixedOrders=true):DOk P (Zsm τ κ):=fun X id ops s k cx r R hX h a w hr hk=>Zsg hτ hκ hm hX h hr hk
abbrev walk (τ:Zaj) (κ:Z0) (φ:Nat→Option FX):ZiK:=ZvK τ κ φ (Zsm τ κ) 8
theorem Zt (hτ:Za8 P τ) (hκ:Zag P κ) (hφ:∀ g fi,φ g=some fi→fi.Ok P g) (hm:P.follows .mixedOrders=true):Zge P (walk τ κ φ):=Zre hτ hκ hφ (ZrL hτ hκ hm) 8
end Go.Proofs.YtgpdnmfpgkkgcaaGreatDoor
namespace Go.Proofs.YtgpdnmfpgkkgcaaGreatDoor
open Go
set_option linter.unusedVariables false
variable {P:Program} {τ:Zaj} {κ:Z0} {φ:Nat→Option FX}
def Zb9.{u} {α:Type u} (n:Nat):List (Nat×α)→Option α
 | []=>none
 | (m,x)::r=>match Nat.beq m n with
   | true=>some x
   | false=>Zb9 n r
def ZbF (n:Nat):List (Nat×CX)→Option CX
 | []=>none
 | (m,x)::r=>match Nat.beq m n with
   | true=>some x
   | false=>ZbF n r
theorem Zlk {α:Type} {n:Nat} {x:α}:∀ {l:List (Nat×α)},Zb9 n l=some x→(n,x)∈l
 | [],h=>by cases h
 | (m,y)::r,h=>by
   simp only [Zb9] at h
   split at h
   ·rename_i e;cases h;rw [Nat.eq_of_beq_eq_true e];exact List.mem_cons_self
   ·exact List.mem_cons_of_mem _ (Zlk h)
theorem Zsa:Zag P (fun n=>ZbF n []):=fun _ _ h=>by cases h
theorem Zmh {f:Nat} {c:CX} {l:List (Nat×CX)} (h:c.Ok P f) (k:Zag P (fun n=>ZbF n l)):Zag P (fun n=>ZbF n ((f,c)::l)):=fun g d hd=>by
 simp only [ZbF] at hd
 split at hd
 ·rename_i e;cases hd;rw [← Nat.eq_of_beq_eq_true e];exact h
 ·exact k g d hd
theorem Zh {f:Nat} {c:Con} {l:List (Nat×CX)} (h:Zak P f c) (k:Zag P (fun n=>ZbF n l)):Zag P (fun n=>ZbF n ((f,.con c)::l)):=Zmh (c:=.con c) h k
theorem ZnS {f:Nat} {r:Zo9} {l:List (Nat×CX)} (h:ZjF P f r) (k:Zag P (fun n=>ZbF n l)):Zag P (fun n=>ZbF n ((f,.row r)::l)):=Zmh (c:=.row r) h k
theorem Lp.wf {σ:Type} {body:σ→(σ→Prop)→Prop} (I:σ→Prop) (μ:σ→Nat) (h:∀ y,I y→∀ R:σ→Prop,(∀ y',I y'→μ y' < μ y→R y')→body y R) {x:σ} (hx:I x):Lp body x:=by
 intro R hR
 have key:∀ n y,μ y < n→I y→R y:=by
  intro n
  induction n with
  | zero=>exact fun y hn=>absurd hn (Nat.not_lt_zero _)
  | succ n ih=>exact fun y hn hy=>hR _ (h y hy R fun y' hy' hlt=>ih y' (by omega) hy')
 exact key (μ x+1) x (Nat.lt_succ_self _) hx
end Go.Proofs.YtgpdnmfpgkkgcaaGreatDoor
namespace Go.Proofs.YtgpdnmfpgkkgcaaGreatDoor
open Go
set_option linter.unusedVariables false
def ZnQ:Ty→List Value
 | .int k=>[.int k 0]
 | .bool=>[.bool false]
 | .str=>[.string ByteArray.empty]
 | .sl _=>[.slice none 0 0]
 | .pair a b=>ZnQ a++ZnQ b
 | .unit=>[]
theorem Zf6 (w:World) (S:Nat→Prop):∀ T:Ty,Zba w S T T.dflt (ZnQ T)
 | .int _=>rfl
 | .bool=>rfl
 | .str=>rfl
 | .sl _=>⟨none,0,rfl,⟨Nat.le_refl _,Nat.zero_le _⟩,fun h=>absurd rfl h⟩
 | .pair a b=>⟨_,_,rfl,Zf6 w S a,Zf6 w S b⟩
 | .unit=>rfl
theorem ZrS {P:Program} {l:List (Nat×TI)} (h:∀ p∈l,p.2.Ok P p.1):Za8 P (fun t=>Zb9 t l):=fun t i ht=>h (t,i) (Zlk ht)
theorem TI.ok_mk {P : Program} {t : TypeId} {ti : TI} (h : (P.info? t).map (fun i => (i.size, i.bytes, i.zero.map fun z => (z.cells.toList, z.cells.size))) = some (ti.size, ti.bytes, some (ti.zero, ti.size)))
 (hk:match ti.k with
 | .int k=>P.underlying t=some (.int k)
 | .bool=>P.underlying t=some .bool
 | .str=>P.underlying t=some .string
 | .sl e=>P.underlying t=some (.slice e)
 | .arr n e=>P.underlying t=some (.array n e)∧∃ zs sz,(P.info? e).map (fun ie=>(ie.zero.map fun z=>z.cells.toList,ie.size))=some (some zs,sz)∧ti.zero=(List.replicate n zs).flatten∧ti.size=n*sz∧0 < n∧n≤9223372036854775807∧0 < sz
 | .st offs=>∃ fs,P.underlying t=some (.struct fs)∧fs.toList.map (fun f=>(f.offset,P.cellsOf f.type))=offs∧∀ p∈offs,p.2≠0
 | .ptr=>∃ e,P.underlying t=some (.pointer e)
 | .map k e=>P.underlying t=some (.map k e)∧(P.info? e).map (fun ie=>ie.zero.map fun z=>z.oneCell')=some (some true)
 | .fn=>∃ ps rs v,P.underlying t=some (.func ps rs v)
 | .other=>True) (hc:match ti.code with | some T=>T.size=ti.size∧0 < ti.size∧ZnQ T=ti.zero | none=>True):ti.Ok P t:=by
 obtain ⟨k,size,bytes,zero,code⟩:=ti
 refine ⟨?_,?_,fun T hT=>?_⟩
 ·simp only [Option.map_eq_some_iff,Prod.mk.injEq] at h
  obtain ⟨i,hi,h1,h2,h3⟩:=h
  obtain ⟨z,hz,h4,h5⟩:=h3
  exact ⟨i,z,hi,h1,h2,hz,h4,h5⟩
 ·cases k
  case arr n e =>
   obtain ⟨h1,zs,sz,h2,h3⟩:=hk
   simp only [Option.map_eq_some_iff,Prod.mk.injEq] at h2
   obtain ⟨ie,hie,⟨ze,hze,rfl⟩,rfl⟩:=h2
   exact ⟨h1,ie,ze,hie,hze,h3⟩
  case map k e =>
   obtain ⟨h1,h2⟩:=hk
   simp only [Option.map_eq_some_iff] at h2
   obtain ⟨ie,hie,ze,hze,h3⟩:=h2
   exact ⟨h1,ie,ze,hie,hze,h3⟩
  all_goals exact hk
 ·simp only at hT
  subst hT
  obtain ⟨h1,h2,h3⟩:=hc
  exact ⟨h1,h2,fun w S=>by simp only at h3;rw [← h3];exact Zf6 w S T⟩
def Zbj (f:Func):FI:=⟨f.ntmps,f.results.toList,match f.body with | some c=>c | none=>.skip⟩
theorem Zbk {P : Program} {g : FuncId} {f : Func} (h : P.funcs[g]? = some f) (hb : f.body.isSome = true) (hn : (f.name == "runtime.NumGoroutine") = false) : (Zbj f).Ok P g := by
 refine ⟨f,h,?_,rfl,rfl,hn⟩
 unfold Zbj
 cases hf:f.body with
 | some c=>rfl
 | none=>rw [hf] at hb;cases hb
theorem ZrZ {P:Program}:∀ g fx,(fun n=>Zb9 n ([]:List (Nat×FX))) g=some fx→fx.Ok P g:=fun _ _ h=>by cases h
theorem Za7 {P:Program} {l:List (Nat×FX)} {f:Nat} {x:FX} (h:x.Ok P f) (k:∀ g fx,(fun n=>Zb9 n l) g=some fx→fx.Ok P g):∀ g fx,(fun n=>Zb9 n ((f,x)::l)) g=some fx→fx.Ok P g:=fun g fx hg=>by
 simp only [Zb9] at hg
 split at hg
 ·rename_i e;cases hg;rw [← Nat.eq_of_beq_eq_true e];exact h
 ·exact k g fx hg
theorem Zg {P : Program} {τ : Zaj} (hτ : Za8 P τ) {run : ZiK} (hrun : Zge P run) {A : An} {f : FuncId} {fi : FI} (hok : fi.Ok P f) {ps : List PS} {rs : List Ty} {pre : Option (ZbR ps → Prop)} {fn : ZbR ps → Za4 rs} {Wp : ZbR ps → (Za4 rs → Prop) → Prop}
 (hw:∀ xs Q,Wp xs Q=fnW τ run A fi ps rs xs Q) (hs:∀ xs,Zmm ps xs→okP (Con.ob ⟨ps,pre,fun xs=>Zbr rs (fn xs)⟩ xs)→Wp xs (fun r=>r=fn xs)):Zak P f ⟨ps,pre,fun xs=>Zbr rs (fn xs)⟩ :=
 Zsj hτ hrun hok fun xs hl hp=>hw xs _▸hs xs hl hp
end Go.Proofs.YtgpdnmfpgkkgcaaGreatDoor
namespace Go.Proofs.YtgpdnmfpgkkgcaaGreatDoor
open Go
set_option linter.unusedVariables false
variable {P:Program} {τ:Zaj} {κ:Z0}
def Zvp:List Nat→List Nat→Bool
 | [],_=>true
 | l::r,M=>match Zdq l M with
   | true=>Zvp r M
   | false=>false
theorem ZmY:∀ {a b:List Nat},Zvp a b=true→∀ l∈a,l∈b
 | [],_,_,l,h=>by simp at h
 | k::r,b,h,l,hl=>by
   simp only [Zvp] at h
   split at h
   ·rename_i hk
    rcases List.mem_cons.1 hl with rfl | hl
    ·exact Zbd.1 hk
    ·exact ZmY h l hl
   ·cases h
def ZvI (τ:Zaj) (run:ZiK) (A:An) (fi:FI) (R:ZoB) (a:R.α) (b:R.β) (Q:Za4 R.rs→R.β→Prop):Prop:=match fi with
 | ⟨nt,res,code⟩=>match R.vals a with
   | vs=>match Nat.ble vs.length nt with
     | false=>False
     | true=>run A [] false code ⟨nt,ZcE 0 vs,R.objs b,R.k,[],[],[],[]⟩ (fun e s=>match ZlD e with
       | false=>False
       | true=>match ZgG τ res s with
         | none=>False
         | some (v,s2)=>match Zvp s2.mv R.mv with
           | false=>False
           | true=>match ZlY R.rs v with
             | none=>False
             | some r=>match R.back s2.objs with
               | none=>False
               | some b'=>Q r b')
theorem Zsv (hτ:Za8 P τ) {run:ZiK} (hrun:Zge P run) {A:An} {f:FuncId} {fi:FI} (hok:fi.Ok P f) {R:ZoB} (hl:R.Law) (h:∀ a b,R.pre a b→ZvI τ run A fi R a b (R.post a b)):Sp.Ok P f (.self R):=by
 refine ⟨hl,hok.call,fun E objs vs ks a b g hg hp cs rv=>?_⟩
 obtain ⟨g0,hf0,hr0⟩:=Zlb hl g hg
 have rs:=hr0 rv
 have hin:CallsIn (fz none) 0 P f cs.toArray E.w fun e w2=>∃ u E' r b',e=.returned u∧E'.w=w2∧R.post a b r b'∧Z2 P E' (Zbs R ks b' objs)∧Zb7 E objs E' (Zbs R ks b' objs) (mvK ks R.mv)∧E.w.drawn≤w2.drawn∧Rep P E' (Zbr R.rs r) u:=by
  obtain ⟨fn,h1,h2,h3,h4,h5⟩:=hok
  have hw:=h a b hp
  obtain ⟨nt,res,code⟩:=fi
  unfold ZvI at hw
  simp only at hw h2 h3 h4
  split at hw
  ·exact hw.elim
  ·rename_i hlen
   have hrel:=ZfH (nt:=nt) (cargs:=cs.toArray) g0 hf0 (by simpa using rs) (Nat.le_of_ble_eq_true hlen)
   refine callsIn_of_wp_marks h1 h2 trivial ?_
   rw [h3]
   refine hrun A [] none code _ _ ⟨ZlI ks E,R.objs b⟩ _ hw _ E.w hrel (fun e s1 a1 w1 hi hk hr1=>?_)
   have fin:ZlD e=true→LeavesInM (fz none) 0 P fn a1.tmps (fun e w2=>∃ u E' r b',e=.returned u∧E'.w=w2∧R.post a b r b'∧Z2 P E' (Zbs R ks b' objs)∧Zb7 E objs E' (Zbs R ks b' objs) (mvK ks R.mv)∧E.w.drawn≤w2.drawn∧Rep P E' (Zbr R.rs r) u) a1.defers .returning w1:=fun he=>by
    rw [he] at hk
    simp only at hk
    split at hk
    ·exact hk.elim
    ·rename_i v s2 hf
     split at hk
     ·exact hk.elim
     ·rename_i hmv
      split at hk
      ·exact hk.elim
      ·rename_i r hr
       split at hk
       ·exact hk.elim
       ·rename_i b' hb
        refine Zg0 hτ (fi:=⟨nt,res,code⟩) h4 hf hr1 (fun u E2 haft hu=>?_)
        obtain ⟨k1,k2⟩:=ZqC hl g hg haft.good haft.step (ZmY hmv) hb
        exact ⟨u,Zk5 ks E E2,r,b',rfl,rfl,hk,k1,k2,haft.drawn,Zl0 (Zin hr hu)⟩
   cases e with
   | normal=>exact fin rfl
   | ret=>exact fin rfl
   | _=>exact hk.elim
 exact callsIn_wide.1 hin
end Go.Proofs.YtgpdnmfpgkkgcaaGreatDoor
namespace Go.Proofs.YtgpdnmfpgkkgcaaGreatDoor
open Go
set_option linter.unusedVariables false
variable {P:Program} {τ:Zaj} {κ:Z0}
theorem Zr5 {r:Option Nat} {o:Oper} {a:Act} {w w':World} {v:Value} {next:Act→World→Prop} {Q:ZiC} (hd:∀ c,o.op≠.defer c) (h:(execOp a.eval o).run P w=.ok (.value v) w') (hn:next (a.put o.dst v) w'):o.wpIn (fz r) 0 P a w next Q:=by
 refine ⟨fun _ _=>trivial,?_⟩
 rw [Oper.semAt_eq _ _ _ hd,h]
 exact hn
theorem Zst {E:Env} {objs:Zaf} (g:Z2 P E objs) (c:Value) (t:TypeId):∃ E',E'.w=E.w.alloc (.cells #[c] t)∧E'.S E.w.heap.size∧Z2 P E' objs∧Zb7 E objs E' objs []:=by
 have g0:Z2 P ⟨E.w,E.S,fun _=>none⟩ []:=Zhb g.sok
 obtain ⟨E1,hw,g1,s1,hl⟩:=Zfn (n:=0) (cs:=[V.any]) (vals:=#[c]) (t:=t) g0 rfl (.cons (.any c) .nil)
 obtain ⟨g2,s2⟩:=g1.still (l:=0) (by rfl) hl
 have st:=s1.trans s2
 have hd0:∀ b,¬ Zdp (⟨E.w,E.S,fun _=>none⟩:Env) [] b:=fun b ⟨_,_,_,h,_⟩=>by cases h
 have hfr:∀ b,b < E.w.heap.size→E1.w.heap[b]?=E.w.heap[b]?:=fun b hb=>st.frame b hb (hd0 b)
 have hx:Ext E ⟨E1.w,(E1.still E.w.heap.size ((Obj.box [V.any]).has { b:=E.w.heap.size })).S,E.loc⟩ []:=⟨fun b hb=>st.ext.S b hb,fun j K _ hK=>hK⟩
 have hown:∀ b,Zdp (⟨E1.w,(E1.still E.w.heap.size ((Obj.box [V.any]).has { b:=E.w.heap.size })).S,E.loc⟩:Env) objs b→Zdp E objs b:=fun b ⟨l,o,L,h1,h2,h3,h4⟩=>⟨l,o,L,h1,h2,h3,h4⟩
 have hst:∀ b,(E1.still E.w.heap.size ((Obj.box [V.any]).has { b:=E.w.heap.size })).S b→E.S b∨E.w.heap.size≤b:=fun b hb=>by
  rcases st.st b hb with k | k | k
  ·exact .inl k
  ·exact .inr k
  ·exact (hd0 b k).elim
 refine ⟨⟨E1.w,(E1.still E.w.heap.size ((Obj.box [V.any]).has { b:=E.w.heap.size })).S,E.loc⟩,hw,.inr ⟨trivial,rfl⟩,⟨fun l o h=>?_,fun b hb hs=>?_,g2.sl,g2.tab,fun i j o o' K K' k1 k2 k3 k4=>g.inj i j o o' K K' k1 k2 k3 k4⟩,
  ⟨hx,st.os,st.tape,st.output,st.size,fun b hb _=>hfr b hb,fun b hb=>.inr (hown b hb),fun b hb=>(hst b hb).elim .inl fun h=>.inr (.inl h),fun l h=>h,fun l h=>rfl⟩⟩
 ·obtain ⟨K,hK,ha⟩:=g.at_ l o h
  exact ⟨K,hK,ha.keep hx fun hh=>hfr _ (g.own_lt ⟨l,o,K,h,hK,hh,rfl⟩)⟩
 ·have hb':=hown b hb
  rcases hst b hs with k | k
  ·exact g.ns b hb' k
  ·have:=g.own_lt hb'
   omega
def Zph (i1 i2:Nat) (t t1 t2 t3 t4:TypeId) (h:FuncId) (p1 p2 p3 p4:String) (af:Array Edge):Code :=
 (Code.region i1 #[{ dst:=some 1,op:=Op.box t (.tmp 0),type:=t1,pos:=p1,after:=#[],guard:=none },{ dst:=some 2,op:=Op.assign (.const .nilFunc),type:=t2,pos:=p2,after:=#[],guard:=none }] false).seq
  ((Code.region i2 #[{ dst:=some 3,op:=Op.makeFunc (.func h) #[] #[.tmp 1],type:=t3,pos:=p3,after:=#[],guard:=none },{ dst:=some 2,op:=Op.assign (.tmp 3),type:=t4,pos:=p4,after:=af,guard:=none }] false).seq .ret)
theorem ZrK {f:FuncId} {fi:FI} (hok:fi.Ok P f) {i1 i2:Nat} {t t1 t2 t3 t4:TypeId} {h:FuncId} {p1 p2 p3 p4:String} {af:Array Edge} (hfi:fi=⟨4,[.tmp 2],Zph i1 i2 t t1 t2 t3 t4 h p1 p2 p3 p4 af⟩):Zsl P f h:=by
 refine ⟨hok.call,fun E objs v c g hs rc=>?_⟩
 obtain ⟨E',hw,hS,g',st⟩:=Zst g c t
 have hone:=Zd3 hs rc
 have hcells:c.cells=#[c]:=by
  cases c<;>simp_all [Value.oneCell',Value.cells]
 obtain ⟨fn,h1,h2,h3,h4,h5⟩:=hok
 subst hfi
 simp only at h2 h3 h4
 have hin:CallsIn (fz none) 0 P f #[c] E.w fun e w2=>∃ u E',e=.returned u∧E'.w=w2∧Z2 P E' objs∧Zb7 E objs E' objs []∧E.w.drawn≤w2.drawn∧Rep P E' (.fn (.func h) [] [.er [v]]) u:=by
  refine callsIn_of_wp_marks h1 h2 trivial ?_
  rw [h3]
  unfold Zph
  refine wpIn_seq (wpIn_region ?_)
  show wpOpsIn (fz none) 0 P _ _ [0,1] _ _
  simp only [wpOpsIn]
  simp [Region.wanted]
  refine Zr5 (v:=.pointer (some ⟨E.w.heap.size,0,none⟩)) (w':=E'.w) (fun _ h=>by cases h) ?_ ?_
  ·show ((do let v ← Instr.box t _;pure (Next.value v):Sem Next)).run P E.w=_
   rw [hw]
   simp [Instr.box,newVar,newRow,Act.eval,hcells]
  ·refine Zr5 (v:=.nilFunc) (w':=E'.w) (fun _ h=>by cases h) rfl ?_
   refine wpIn_seq (wpIn_region ?_)
   show wpOpsIn (fz none) 0 P _ _ [0,1] _ _
   simp only [wpOpsIn]
   simp [Region.wanted]
   refine Zr5 (v:=.func (.func h) #[] #[.pointer (some ⟨E.w.heap.size,0,none⟩)]) (w':=E'.w) (fun _ h=>by cases h) ?_ ?_
   ·simp [execOp,Act.eval,Act.put,Instr.makeFunc]
   ·refine Zr5 (v:=.func (.func h) #[] #[.pointer (some ⟨E.w.heap.size,0,none⟩)]) (w':=E'.w) (fun _ h=>by cases h) ?_ ?_
    ·rfl
    ·refine wpIn_ret ?_
     show LeavesInM _ _ _ _ _ _ _ _ _
     refine ⟨.func (.func h) #[] #[.pointer (some ⟨E.w.heap.size,0,none⟩)],?_,?_⟩
     ·rw [Zi1,Array.mapM_eq_mapM_toList,h4]
      rfl
     ·refine ⟨_,rfl,E',rfl,g',st,?_,.fn rfl rfl (fun j hj=>by cases hj) fun j hj=>?_⟩
      ·rw [hw];exact Nat.le_refl _
      ·match j,hj with
       | 0,_ =>
         refine .er (fun _=>c) hS (fun j hj=>?_) (fun j hj=>?_)
         ·have:j=0:=by simpa using hj
          subst this
          rw [Zcg (vals:=#[c]) (t:=t) (fr:=(0,0)) (by rw [hw];exact heap_alloc_new _ _)];rfl
         ·have:j=0:=by simpa using hj
          subst this
          exact rc.mono st.ext
 exact callsIn_wide.1 hin
end Go.Proofs.YtgpdnmfpgkkgcaaGreatDoor
