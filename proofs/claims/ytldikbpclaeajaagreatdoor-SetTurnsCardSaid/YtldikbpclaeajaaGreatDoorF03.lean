/- Part of a proof that a law of the program holds for every input: how abstract states follow the program. No conditions. -/
import Derived.Test.YtldikbpclaeajaaGreatDoorF02
namespace Go.Proofs.YtldikbpclaeajaaGreatDoor
open Go
set_option linter.unusedVariables false
variable {P : Program} {τ : TyTab} {κ : ConTab} {φ : Nat → Option FX}
def Lp {σ : Type} (body : σ → (σ → Prop) → Prop) (x : σ) : Prop := ∀ R : σ → Prop,(∀ y,body y R → R y) → R x
def JoinW {σ : Type} (K : σ → Prop) (body : (σ → Prop) → Prop) : Prop := body K
def firstReg : Code → Option Nat
  | .region id _ _ => some id
  | .seq a b => match firstReg a with
    | some n => some n
    | none => firstReg b
  | .cond _ a b => match firstReg a with
    | some n => some n
    | none => firstReg b
  | .block _ c => firstReg c
  | .loop c => firstReg c
  | .scope c => firstReg c
  | .rangeFunc _ _ a _ => firstReg a
  | _ => none
def An.join (A : An) (d : Code) : Option LA := match firstReg d with
  | some n => A.jn n
  | .none => .none
def St.add (s : St) (la : LA) (s0 : St) : St := match la,s0,s with
  | ⟨vs,es,an,dd⟩,⟨_,_,_,_,_,wr0,di0,_⟩,⟨nt,tmps,objs,nx,df,wr,di,mv⟩ => ⟨nt,tmps,objs,nx,df,wr ++ (an ++ (LA.tmps vs ++ wr0)),di ++ (keysV vs ++ dd ++ di0),mv⟩
theorem add_rel {cx : Cx} {la : LA} {s0 s : St} {a : Act} {w : World} (h : Rel P cx s a w) : Rel P cx (s.add la s0) a w := by
  obtain ⟨E,e,r⟩ := h
  cases la;cases s0;cases s
  exact ⟨E,e,r.good,r.fresh,r.step,r.drawn,r.size,r.df,r.rep⟩
theorem clr_rel {cx : Cx} {s : St} {a : Act} {w : World} (h : Rel P cx s a w) : Rel P cx s.clr a w := by
  obtain ⟨E,e,r⟩ := h
  cases s
  exact ⟨E,e,r.good,r.fresh,r.step,r.drawn,r.size,r.df,r.rep⟩
theorem clr_mv {s : St} : s.clr.mv = s.mv := by cases s;rfl
theorem head_mv {la : LA} {s : St} {y : denVs la.vs} : ∀ l ∈ s.mv,l ∈ (head la s y).mv := by
  cases la;cases s
  exact fun l hl => List.mem_append_right _ hl
theorem add_inv {la : LA} {s0 s : St} (h : Hd la s0 s) (hm : ∀ l ∈ s0.mv,l ∈ s.mv) : Inv s0 (s.add la s0) := by
  obtain ⟨vs,es,an,dd⟩ := la
  obtain ⟨nt0,tmps0,objs0,nx0,df0,wr0,di0,mv0⟩ := s0
  obtain ⟨nt,tmps,objs,nx,df,wr,di,mv⟩ := s
  refine ⟨h.nt,h.nx,fun t ht => ?_,fun l hl => ?_,hm,fun t ht => ?_,fun l hl => ?_,fun hn => ?_⟩
  · show t ∈ wr ++ (an ++ (LA.tmps vs ++ wr0))
    simp only [List.mem_append];exact .inr (.inr (.inr ht))
  · show l ∈ di ++ (keysV vs ++ dd ++ di0)
    simp only [List.mem_append];exact .inr (.inr hl)
  · have ht : t ∉ wr ++ (an ++ (LA.tmps vs ++ wr0)) := ht
    simp only [List.mem_append,not_or] at ht
    exact h.tmp t ht.1 ht.2.1 ht.2.2.1
  · have hl : l ∉ di ++ (keysV vs ++ dd ++ di0) := hl
    simp only [List.mem_append,not_or] at hl
    exact h.obj l hl.1 (by show l ∉ keysV vs ++ dd;simp only [List.mem_append,not_or];exact hl.2.1)
  · have hn : nt0 ∉ wr ++ (an ++ (LA.tmps vs ++ wr0)) := hn
    simp only [List.mem_append,not_or] at hn
    exact h.df hn.1
def unW (body : St → (Exit → St → Prop) → Prop) : Nat → St → (Exit → St → Prop) → Prop
  | 0,_,_ => False
  | n + 1,s,k => body s (fun e s' => match e with
    | .normal => unW body n s' k
    | e => k e s')
abbrev DT := XT → List Oper → St → (St → Prop) → Prop
def DOk (P : Program) (D : DT) : Prop := ∀ (X : XT) (id : Nat) (ops : Array Oper) (s : St) (k : St → Prop) (cx : Cx) (r : Option Nat) (R : Post),XOk P r cx X → D X ops.toList s k → ∀ a w,Rel P cx s a w → (∀ s' a' w',Inv s s' → k s' → Rel P cx s' a' w' → R .normal a' w') →
  (Code.region id ops true).wpIn (fz r) 0 P R a w
def rangeK (l : Nat) (k : Exit → St → Prop) (s : St) : Prop := match s with
  | ⟨nt,tmps,objs,nx,df,wr,di,mv⟩ => match memN l mv with
    | true => False
    | false => match getO l objs with
      | some (.lrec _ _ _ _ _ st j) => match st with
        | .busy => False
        | _ => match j with
          | .no => k .normal ⟨nt,tmps,(l,.dead) :: objs,nx,df,wr,l :: di,mv⟩
          | .ret => k .ret ⟨nt,tmps,(l,.dead) :: objs,nx,df,wr,l :: di,mv⟩
          | .exit i => k (.exit i) ⟨nt,tmps,(l,.dead) :: objs,nx,df,wr,l :: di,mv⟩
      | _ => False
def codeW (τ : TyTab) (κ : ConTab) (φ : Nat → Option FX) (D : DT) (run : RunT) (A : An) (Y : List (Nat × An)) (ro : Bool) : Nat → Code → St → (Exit → St → Prop) → Prop
  | _,.skip,s,k => k .normal s
  | _,.label _,s,k => k .normal s
  | _,.ret,s,k => k .ret s
  | _,.exit i,s,k => k (.exit i) s
  | _, .region id ops dr, s, k => ghostsW (A.gs id) s (fun s1 => match ops.toList with
      | l => match dr with
        | false => opsW τ κ (xW τ φ run A Y) l l [] s1 (fun s' => k .normal s')
        | true => D (xW τ φ run A Y) l s1 (fun s' => k .normal s'))
  | b,.seq c d,s,k => match A.join d with
    | none => codeW τ κ φ D run A Y ro b c s (fun e s' => match e with
      | .normal => codeW τ κ φ D run A Y ro b d s' k
      | e => k e s')
    | some la => JoinW (fun y => codeW τ κ φ D run A Y ro b d ((head la s y).add la s) k) (fun J => codeW τ κ φ D run A Y ro b c s.clr (fun e s' => match e with
      | .normal => match back la s s' with
        | some y => J y
        | none => False
      | e => k e (s'.add la s)))
  | b,.cond x c d,s,k => match evV s.tmps x with
    | .d .bool v => cond v (codeW τ κ φ D run A Y ro b c s k) (codeW τ κ φ D run A Y ro b d s k)
    | _ => False
  | b,.block id c,s,k => codeW τ κ φ D run A Y ro id c s (fun e s' => match e with
    | .exit i => match Nat.beq i id with
      | true => k .normal s'
      | false => k (.exit i) s'
    | e => k e s')
  | b,.scope c,s,k => codeW τ κ φ D run A Y ro b c s (fun e s' => match e with
    | .goto _ => False
    | e => k e s')
  | b,.loop c,s,k => match ghosts (A.gs (1000 + b)) s with
    | none => False
    | some s => match A.lp b with
      | none => match A.un b with
        | some n => unW (fun s k => codeW τ κ φ D run A Y ro b c s k) n s k
        | none => False
      | some la => match frzVs la.vs s with
        | s0 => match back la s0 s0.clr with
          | none => False
          | some y0 => Lp (fun y R => codeW τ κ φ D run A Y ro b c (head la s0 y) (fun e s' => match e with
            | .normal => match back la s0 s' with
              | some y' => R y'
              | none => False
            | e => k e (s'.add la s0))) y0
  | b,.rangeFunc g ps assign body,s,k => match ro with
    | true => False
    | false => match s with
      | ⟨nt, tmps, objs, nx, df, wr, di, mv⟩ => callF τ φ run (A.call (5000 + b)) ((nx + 1, A) :: Y) (evV tmps g) [.yl (nx + 1)]
          ⟨nt,tmps,(nx + 1,.lrec nt tmps ps.toList assign body .ready .no) :: (nx,.dfb) :: objs,nx + 2,.mark nx :: df,nt :: wr,(nx + 1) :: nx :: di,mv⟩ (fun _ s' => rangeK (nx + 1) k s')
  | _,_,_,_ => False
theorem run_enterLoop_none (fn : FuncId) (tmps : Array Value) (ps : Array Tmp) (assign body : Code) (w : World) :
    (Instr.enterLoop fn tmps ps assign body (fz none).round).run P w =
      .ok (w.heap.size + 1,[{ target := .collected w.heap.size,args := #[] }])
        ((w.alloc (.deferred (some []))).alloc (.loop { state := .ready,pending := none,fn,tmps,params := ps,assign,body,defers := w.heap.size })) :=
  run_enterLoop_outer fn tmps ps assign body
theorem heap_new (w : World) (o : Go.Obj) : (w.alloc o).heap[w.heap.size]? = some o := World.alloc_heap_new w o
theorem range_enter {cx : Cx} {s : St} {a : Act} {E : Env} (r : RelE P cx s a E) (fn : FuncId) (ps : Array Tmp) (assign body : Code) :
    ∃ E2,E2.w = (E.w.alloc (.deferred (some []))).alloc (.loop { state := .ready,pending := none,fn,tmps := a.tmps,params := ps,assign,body,defers := E.w.heap.size }) ∧ Ext E E2 [] ∧ E2.loc (s.nx + 1) = some { b := E.w.heap.size + 1 } ∧
      RelE P cx ⟨s.nt,s.tmps,(s.nx + 1,.lrec s.nt s.tmps ps.toList assign body .ready .no) :: (s.nx,.dfb) :: s.objs,s.nx + 2,.mark s.nx :: s.df,s.nt :: s.wr,(s.nx + 1) :: s.nx :: s.di,s.mv⟩
        { a with defers := { target := .collected E.w.heap.size,args := #[] } :: a.defers } E2 := by
  have hf0 := r.fresh s.nx (Nat.le_refl _)
  have p1 := Good.push r.good (w := E.w.alloc (.deferred (some []))) (l := s.nx) (L := { b := E.w.heap.size }) (o := .dfb) hf0 (World.grownBy_alloc E.w _ none) (heap_new E.w _) (fun _ => Nat.le_refl _)
  have hf1 : (E.setL (E.w.alloc (.deferred (some []))) s.nx { b := E.w.heap.size }).loc (s.nx + 1) = none := by
    rw [setL_ne _ _ _ (by omega)];exact r.fresh _ (by omega)
  generalize hE1 : E.setL (E.w.alloc (.deferred (some []))) s.nx { b := E.w.heap.size } = E1 at p1 hf1
  have hw1 : E1.w = E.w.alloc (.deferred (some [])) := by rw [← hE1];rfl
  have hsz : E1.w.heap.size = E.w.heap.size + 1 := by rw [hw1];simp
  have hx1 : Ext E E1 [] := p1.2.ext
  have hgr := World.grownBy_alloc E1.w (.loop { state := .ready,pending := none,fn,tmps := a.tmps,params := ps,assign,body,defers := E.w.heap.size }) none
  have hx2 := push_ext p1.1 { b := E1.w.heap.size } hf1 hgr
  have p2 := Good.push p1.1 (w := E1.w.alloc (.loop { state := .ready,pending := none,fn,tmps := a.tmps,params := ps,assign,body,defers := E.w.heap.size })) (l := s.nx + 1) (L := { b := E1.w.heap.size })
    (o := .lrec s.nt s.tmps ps.toList assign body .ready .no) hf1 hgr
    ⟨_,heap_new E1.w _,r.size,fun t => ((r.rep t).mono hx1).mono hx2,rfl,rfl,rfl,rfl,rfl⟩ (fun _ => Nat.le_refl _)
  refine ⟨_,by rw [← hw1];rfl,?_,by rw [setL_same,hsz],p2.1,fun l hl => ?_,(r.step.trans p1.2).trans p2.2,by show cx.E.w.drawn ≤ (E1.w.alloc _).drawn;rw [hw1];exact r.drawn,r.size,?_,fun t => ((r.rep t).mono hx1).mono hx2⟩
  · simpa using hx1.trans hx2
  · have hl : s.nx + 2 ≤ l := hl
    rw [setL_ne _ _ _ (by omega),← hE1,setL_ne _ _ _ (by omega)]
    exact r.fresh l (by omega)
  · exact ⟨_,_,rfl,⟨_,by rw [setL_ne _ _ _ (by omega),← hE1];exact setL_same _ _ _ _,rfl⟩,(r.df.ext hx1).ext hx2⟩
theorem rangeK_ok {l : Nat} {k : Exit → St → Prop} {cx : Cx} {s : St} {a : Act} {E : Env} {b : Nat} {R : Post} (h : rangeK l k s) (r : RelE P cx s a E) (hl : l ∉ s.mv → E.loc l = some { b := b })
    (hk : ∀ e s' a' w',Inv s s' → k e s' → Rel P cx s' a' w' → R e a' w') : rangePost (fz none) 0 P b R a (.returned undef) E.w := by
  obtain ⟨nt,tmps,objs,nx,df,wr,di,mv⟩ := s
  unfold rangeK at h
  simp only at h
  split at h
  · exact h.elim
  · rename_i hm
    have hL := hl (fun hmem => by rw [memN_iff.2 hmem] at hm;cases hm)
    split at h
    · rename_i nt1 tmps1 ps1 as1 bo1 st j ho
      obtain ⟨K,hK,hat⟩ := r.good.at_ l _ ho
      rw [hL] at hK;cases hK
      obtain ⟨q,q1,q2,q3,q4,q5,q6,q7,q8⟩ := hat
      have hlt : b < E.w.heap.size := (Array.getElem?_eq_some_iff.1 q1).1
      have hgr : E.w.grownBy (E.w.putObj b (.loop { q with state := .exhausted })) (some b) := grownBy_putObj' _ _ _
      have hp := Good.put r.good (mv := false) (o' := .dead) (L' := { b := b }) ho hL hgr (fun b' e => by cases e;exact ⟨trivial,rfl⟩) (fun _ => rfl) trivial (fun h => h.elim)
      have hbusy : st ≠ .busy → q.state ≠ .busy := fun h e => h (q7 ▸ e)
      have hrel : Rel P cx ⟨nt,tmps,(l,.dead) :: objs,nx,df,wr,l :: di,mv⟩ a (E.w.putObj b (.loop { q with state := .exhausted })) := by
        refine ⟨_,rfl,hp.1,fun k hk => ?_,r.step.trans hp.2,r.drawn,r.size,r.df.ext hp.2.ext,fun t => (r.rep t).mono hp.2.ext⟩
        by_cases e : k = l
        · subst e
          have := r.fresh k hk
          rw [hL] at this;cases this
        · rw [setL_ne _ _ _ e];exact r.fresh k hk
      have hinv : Inv ⟨nt,tmps,objs,nx,df,wr,di,mv⟩ ⟨nt,tmps,(l,.dead) :: objs,nx,df,wr,l :: di,mv⟩ :=
        ⟨rfl,Nat.le_refl _,fun _ h => h,fun _ h => List.mem_cons_of_mem _ h,fun _ h => h,fun _ _ => rfl,fun k hk => by
          simp only [List.mem_cons,not_or] at hk
          simp only;rw [getO_cons,if_neg (Ne.symm hk.1)],fun _ => rfl⟩
      split at h
      · exact h.elim
      · rename_i hst
        refine ⟨j.code,_,by rw [← q8];exact run_endLoop q1 (hbusy fun e => hst e),?_⟩
        cases j with
        | no => exact hk _ _ _ _ hinv h hrel
        | ret => exact wpIn_ret (hk _ _ _ _ hinv h hrel)
        | exit i => exact wpIn_exit (hk _ _ _ _ hinv h hrel)
    · exact h.elim
end Go.Proofs.YtldikbpclaeajaaGreatDoor
namespace Go.Proofs.YtldikbpclaeajaaGreatDoor
open Go
set_option linter.unusedVariables false
variable {P : Program} {τ : TyTab} {κ : ConTab} {φ : Nat → Option FX}
theorem unW_ok {r : Option Nat} {cx : Cx} {R : Post} {c : Code} {body : St → (Exit → St → Prop) → Prop} {k : Exit → St → Prop}
    (hb : ∀ (s : St) (k : Exit → St → Prop) (R : Post),body s k → ∀ a w,Rel P cx s a w → (∀ e s' a' w',Inv s s' → k e s' → Rel P cx s' a' w' → R e a' w') → c.wpIn (fz r) 0 P R a w) :
    ∀ (n : Nat) (s : St),unW body n s k → ∀ a w,Rel P cx s a w → (∀ e s' a' w',Inv s s' → k e s' → Rel P cx s' a' w' → R e a' w') → InLoop (fz r) P c R a w
  | 0,_,h,_,_,_,_ => h.elim
  | n + 1,s,h,a,w,hr,hk => InLoop.round (hb s _ _ h a w hr (fun e s' a' w' hi hq hr' => by
      cases e with
      | normal => exact unW_ok hb n s' hq a' w' hr' (fun e s'' a'' w'' hi' hq' hr'' => hk e s'' a'' w'' (hi.trans hi') hq' hr'')
      | _ => exact hk _ s' a' w' hi hq hr'))
theorem ops_range (ops : Array Oper) : ops.toList.map some = (List.range ops.size).map (fun i => ops[i]?) := by
  apply List.ext_getElem?
  intro j
  simp only [List.getElem?_map,Array.getElem?_toList]
  by_cases h : j < ops.size
  · rw [List.getElem?_range h];simp [h]
  · rw [List.getElem?_eq_none (by simp;omega),Array.getElem?_eq_none (by omega)];rfl
theorem codeW_ok (hτ : TabOk P τ) (hκ : ConsOk P κ) (hφ : ∀ g fi, φ g = some fi → fi.Ok P g) {D : DT} (hD : DOk P D) {run : RunT} (hrun : RunOk P run) {A : An} {Y : List (Nat × An)} {r : Option Nat} {cx : Cx} :
    ∀ (c : Code) (b : Nat) (s : St) (k : Exit → St → Prop) (R : Post),codeW τ κ φ D run A Y r.isSome b c s k → ∀ a w,Rel P cx s a w → (∀ e s' a' w',Inv s s' → k e s' → Rel P cx s' a' w' → R e a' w') → c.wpIn (fz r) 0 P R a w := by
  intro c
  induction c with
  | skip => intro b s k R h a w hr hk;exact wpIn_skip (hk _ s a w (.refl s) h hr)
  | label l => intro b s k R h a w hr hk;exact wpIn_label (hk _ s a w (.refl s) h hr)
  | ret => intro b s k R h a w hr hk;exact wpIn_ret (hk _ s a w (.refl s) h hr)
  | exit i => intro b s k R h a w hr hk;exact wpIn_exit (hk _ s a w (.refl s) h hr)
  | goto l => intro b s k R h a w hr hk;exact h.elim
  | refuse l => intro b s k R h a w hr hk;exact h.elim
  | region id ops dr =>
    intro b s k R h a w hr hk
    simp only [codeW] at h
    obtain ⟨s1,hi1,hr1,h⟩ := ghostsW_ok h hr
    cases dr with
    | false =>
      simp only at h
      refine wpIn_region ?_
      have := opsW_ok (Q := R) hτ hκ (xW_ok (r := r) (cx := cx) hτ hφ hrun) (is := List.range ops.size) (ops_range ops) h hr1 (fun s' a' w' hi hq hr' => hk _ s' a' w' (hi1.trans hi) hq hr')
      exact this
    | true => exact hD _ id ops s1 _ cx r R (xW_ok hτ hφ hrun) h a w hr1 (fun s' a' w' hi hq hr' => hk _ s' a' w' (hi1.trans hi) hq hr')
  | seq c d ihc ihd =>
    intro b s k R h a w hr hk
    simp only [codeW] at h
    split at h
    · refine wpIn_seq (ihc b s _ _ h a w hr (fun e s' a' w' hi hq hr' => ?_))
      cases e with
      | normal => exact ihd b s' k R hq a' w' hr' (fun e s'' a'' w'' hi' hq' hr'' => hk e s'' a'' w'' (hi.trans hi') hq' hr'')
      | _ => exact hk _ s' a' w' hi hq hr'
    · rename_i la hla
      refine wpIn_seq (ihc b s.clr _ _ h a w (clr_rel hr) (fun e s' a' w' hi hq hr' => ?_))
      have hd : Hd la s s' := (Hd.clr la s).inv hi
      have hmv : ∀ l ∈ s.mv,l ∈ s'.mv := fun l hl => hi.mv l (by rw [clr_mv];exact hl)
      cases e with
      | normal =>
        simp only at hq
        split at hq
        · rename_i y hy
          have hr2 := back_ok hr hd hy hr'
          exact ihd b _ k R hq a' w' (add_rel hr2) (fun e s'' a'' w'' hi' hq' hr'' => hk e s'' a'' w'' ((add_inv (Hd.head la s y) head_mv).trans hi') hq' hr'')
        · exact hq.elim
      | _ => exact hk _ _ a' w' (add_inv hd hmv) hq (add_rel hr')
  | cond x c d ihc ihd =>
    intro b s k R h a w hr hk
    simp only [codeW] at h
    split at h
    · rename_i v hv
      obtain ⟨E,rfl,r1⟩ := id hr
      have rx := evV_rep r1.rep x
      rw [hv] at rx
      cases v with
      | true => exact wpIn_cond rx.bool_inv (ihc b s k R h a _ hr hk)
      | false => exact wpIn_cond rx.bool_inv (ihd b s k R h a _ hr hk)
    · exact h.elim
  | block id c ih =>
    intro b s k R h a w hr hk
    simp only [codeW] at h
    refine wpIn_block (ih id s _ _ h a w hr (fun e s' a' w' hi hq hr' => ?_))
    cases e with
    | exit i =>
      simp only at hq
      simp only [Exit.inBlock]
      split at hq
      · rename_i e
        rw [if_pos (Nat.eq_of_beq_eq_true e)]
        exact hk _ s' a' w' hi hq hr'
      · rename_i e
        rw [if_neg (Nat.ne_of_beq_eq_false e)]
        exact hk _ s' a' w' hi hq hr'
    | _ => exact hk _ s' a' w' hi hq hr'
  | scope c ih =>
    intro b s k R h a w hr hk
    simp only [codeW] at h
    refine aw_scope (ih b s _ _ h a w hr (fun e s' a' w' hi hq hr' => ?_))
    cases e with
    | goto l => exact hq.elim
    | _ => exact hk _ s' a' w' hi hq hr'
  | loop c ih =>
    intro b s k R h a w hr hk
    simp only [codeW] at h
    split at h
    · exact h.elim
    · rename_i sg hsg
      replace hk : ∀ e s' a' w',Inv sg s' → k e s' → Rel P cx s' a' w' → R e a' w' := fun e s' a' w' hi => hk e s' a' w' ((Inv.ghosts hsg).trans hi)
      replace hr := ghosts_wk hsg a w hr
      split at h
      · split at h
        · rename_i n hn
          exact (unW_ok (fun s k R h a w hr hk => ih b s k R h a w hr hk) n sg h a w hr hk).loop
        · exact h.elim
      · rename_i la hla
        have hr0 := wk_frzVs (P := P) (cx := cx) la.vs sg a w hr
        have hi0 := Inv.frzVs la.vs sg
        revert h hr0 hi0
        generalize frzVs la.vs sg = s0
        intro h hr0 hi0
        split at h
        · exact h.elim
        · rename_i y0 hy0
          have hfirst : Rel P cx (head la s0 y0) a w := back_ok hr0 (Hd.clr la s0) hy0 (clr_rel hr0)
          refine InLoop.loop (h (fun y => ∀ a w,Rel P cx (head la s0 y) a w → InLoop (fz r) P c R a w) (fun y hy a w hr => InLoop.round (ih b _ _ _ hy a w hr (fun e s' a' w' hi hq hr' => ?_))) a w hfirst)
          have hd : Hd la s0 s' := (Hd.head la s0 y).inv hi
          have hmv : ∀ l ∈ s0.mv,l ∈ s'.mv := fun l hl => hi.mv l (head_mv l hl)
          cases e with
          | normal =>
            simp only at hq
            split at hq
            · rename_i y' hy'
              exact hq a' w' (back_ok hr0 hd hy' hr')
            · exact hq.elim
          | _ => exact hk _ _ a' w' (hi0.trans (add_inv hd hmv)) hq (add_rel hr')
  | rangeFunc g ps assign body =>
    intro b s k R h a w hr hk
    simp only [codeW] at h
    split at h
    · exact h.elim
    · rename_i hro
      have hrn : r = none := by cases r with | none => rfl | some _ => cases hro
      subst hrn
      obtain ⟨nt,tmps,objs,nx,df,wr,di,mv⟩ := s
      simp only at h
      obtain ⟨E,rfl,r1⟩ := hr
      refine wpIn_rangeFunc (fun fn _ => ?_)
      obtain ⟨E2,e1,e2,e3,r2⟩ := range_enter r1 fn ps assign body
      have rg : Rep P E2 (evV tmps g) (a.eval g) := (evV_rep r1.rep g).mono e2
      have ry : Reps P E2 [.yl (nx + 1)] [.func (.yield (E.w.heap.size + 1)) #[] #[]] := .cons (.yl e3) .nil
      obtain ⟨gf,p,q,f1,f2,f3⟩ := callF_ok hτ hφ hrun h r2 rg ry
      rw [e1] at f3
      refine ⟨E.w.heap.size + 1,_,_,⟨.fn (.func gf) q,p ++ #[.func (.yield (E.w.heap.size + 1)) #[] #[]]⟩,(E.w.alloc (.deferred (some []))).alloc (.loop { state := .ready,pending := none,fn,tmps := a.tmps,params := ps,assign,body,defers := E.w.heap.size }),
        gf,p ++ #[.func (.yield (E.w.heap.size + 1)) #[] #[]] ++ q,(E.w.alloc (.deferred (some []))).alloc (.loop { state := .ready,pending := none,fn,tmps := a.tmps,params := ps,assign,body,defers := E.w.heap.size }),
        run_enterLoop_none fn a.tmps ps assign body E.w,?_,fun _ _ => trivial,?_,fun h => by simp [fz,Fence.wide] at h,?_⟩
      · show (Deferred.ofValue (a.eval g) _).run P _ = _
        rw [f1]
        simp [rangeCall,Deferred.ofValue,show ∀ c,a.eval (.const c) = c from fun _ => rfl]
      · simp only [invoke]
        exact callFunc_run f2 _ _
      · have f3' := fun R hR => f3 R hR
        simp only [List.toArray] at f3'
        refine f3' _ (fun u v s3 E' hi hq hr' _ hx => ?_)
        refine rangeK_ok hq hr' (fun hm => ?_) (fun e s' a' w' hi' hq' hr'' => hk e s' a' w' ?_ hq' hr'')
        · exact hx _ _ hm e3
        · refine Inv.trans ?_ (hi.trans hi')
          exact ⟨rfl,by simp only;omega,fun _ h => List.mem_cons_of_mem _ h,fun _ h => List.mem_cons_of_mem _ (List.mem_cons_of_mem _ h),fun _ h => h,fun _ _ => rfl,fun k hk => by
            simp only [List.mem_cons,not_or] at hk
            simp only;rw [getO_cons,if_neg (Ne.symm hk.1),getO_cons,if_neg (Ne.symm hk.2.1)],fun hn => by simp at hn⟩
def runN (τ : TyTab) (κ : ConTab) (φ : Nat → Option FX) (D : DT) : Nat → RunT
  | 0,_,_,_,_,_,_ => False
  | n + 1,A,Y,ro,c,s,k => codeW τ κ φ D (runN τ κ φ D n) A Y ro 0 c s k
theorem runN_ok (hτ : TabOk P τ) (hκ : ConsOk P κ) (hφ : ∀ g fi,φ g = some fi → fi.Ok P g) {D : DT} (hD : DOk P D) : ∀ n,RunOk P (runN τ κ φ D n)
  | 0 => fun _ _ _ _ _ _ _ _ h => h.elim
  | n + 1 => fun A Y r c s k cx R h a w hr hk => codeW_ok hτ hκ hφ hD (runN_ok hτ hκ hφ hD n) c 0 s k R h a w hr hk
end Go.Proofs.YtldikbpclaeajaaGreatDoor
namespace Go.Proofs.YtldikbpclaeajaaGreatDoor
open Go
set_option linter.unusedVariables false
variable {P : Program} {τ : TyTab} {κ : ConTab} {φ : Nat → Option FX}
def fnW (τ : TyTab) (run : RunT) (A : An) (fi : FI) (ps : List PS) (rs : List Ty) (xs : denPS ps) (Q : denL rs → Prop) : Prop := match fi with
  | ⟨nt,res,code⟩ => match toVs ps xs with
    | vs => match Nat.ble vs.length nt with
      | false => False
      | true => run A [] false code ⟨nt,argTmps 0 vs,[],0,[],[],[],[]⟩ (fun e s => match isEnd e with
        | false => False
        | true => match finish τ res s with
          | none => False
          | some (v,s2) => match lend 9 s2.objs [v] with
            | some ([v'],_) => match unres rs v' with
              | some r => Q r
              | none => False
            | _ => False)
def fnV (τ : TyTab) (run : RunT) (A : An) (fi : FI) (ps : List PS) (xs : denPS ps) (Q : V → Prop) : Prop := match fi with
  | ⟨nt,res,code⟩ => match toVs ps xs with
    | vs => match Nat.ble vs.length nt with
      | false => False
      | true => run A [] false code ⟨nt,argTmps 0 vs,[],0,[],[],[],[]⟩ (fun e s => match isEnd e with
        | false => False
        | true => match finish τ res s with
          | none => False
          | some (v,s2) => match lend 9 s2.objs [v] with
            | some ([v'],_) => Q v'
            | _ => False)
theorem good_nil {w : World} {S : Nat → Prop} (hS : Sok P w S) : Good P ⟨w,S,fun _ => none⟩ [] :=
  ⟨fun l o h => (by cases h),fun b h => (by obtain ⟨l,o,L,h,_⟩ := h;cases h),hS.lt,hS.tab,fun i j o o' L L' h => (by cases h)⟩
theorem fnW_calls (hτ : TabOk P τ) {run : RunT} (hrun : RunOk P run) {A : An} {f : FuncId} {fi : FI} (hok : fi.Ok P f) {ps : List PS} {rs : List Ty} {xs : denPS ps} {Q : denL rs → Prop} (h : fnW τ run A fi ps rs xs Q) {w : World} {S : Nat → Prop}
    (hS : Sok P w S) {args : Array Value} (ra : Reps P ⟨w,S,fun _ => none⟩ (toVs ps xs) args.toList) :
    Calls P f args w fun e w2 => ∃ v S2 r,e = .returned v ∧ GrowS w S w2 S2 ∧ Rep P ⟨w2,S2,fun _ => none⟩ (resV rs r) v ∧ Q r := by
  obtain ⟨nt,res,code⟩ := fi
  obtain ⟨fn,h1,h2,h3,h4,h5⟩ := id hok
  unfold fnW at h
  simp only at h h3 h4
  split at h
  · exact h.elim
  · rename_i hlen
    have g0 : Good P ⟨w,S,fun _ => none⟩ [] := good_nil hS
    have hrel := enter_rel (nx := 0) (nt := nt) g0 (fun _ _ => rfl) ra (Nat.le_of_ble_eq_true hlen)
    have hin : CallsIn (fz none) 0 P f args w fun e w2 => ∃ v S2 r,e = .returned v ∧ GrowS w S w2 S2 ∧ Rep P ⟨w2,S2,fun _ => none⟩ (resV rs r) v ∧ Q r := by
      refine callsIn_of_wp_marks h1 h2 trivial ?_
      rw [h3]
      refine hrun A [] none code _ _ ⟨⟨w,S,fun _ => none⟩,[]⟩ _ h _ w hrel (fun e s1 a1 w1 hi hk hr1 => ?_)
      have fin : isEnd e = true → LeavesInM (fz none) 0 P fn a1.tmps (fun e w2 => ∃ v S2 r,e = .returned v ∧ GrowS w S w2 S2 ∧ Rep P ⟨w2,S2,fun _ => none⟩ (resV rs r) v ∧ Q r) a1.defers .returning w1 := fun he => by
        rw [he] at hk
        simp only at hk
        split at hk
        · exact hk.elim
        · rename_i v s2 hf
          split at hk
          · rename_i v' ks hl
            split at hk
            · rename_i r hr
              refine leave_ok hτ (fi := ⟨nt,res,code⟩) h4 hf hr1 (fun u E' haft hu => ?_)
              have hno : ∀ b,¬ ownB ⟨w,S,fun _ => none⟩ [] b := fun b h => (by obtain ⟨l,o,L,h,_⟩ := h;cases h)
              obtain ⟨S',k1,k2,_,k4,k5,k6⟩ := lend_ok hl haft.good (.cons hu .nil)
              have st := haft.step
              refine ⟨u,S',r,rfl,⟨haft.drawn,st.os,st.tape,st.output,st.size,fun b hb => st.frame b hb (hno b),fun b hb => k1 b (st.ext.S b hb).1,fun b hb => ?_,k2⟩,res_rep (unres_res hr k5.head),hk⟩
              rcases k6 b hb with h | h
              · rcases st.st b h with h | h | h
                · exact .inl h
                · exact .inr h
                · exact absurd h (hno b)
              · rcases st.own b h with h | h
                · exact .inr h
                · exact absurd h (hno b)
            · exact hk.elim
          · exact hk.elim
      cases e with
      | normal => exact fin rfl
      | ret => exact fin rfl
      | _ => exact hk.elim
    exact callsIn_wide.1 hin
theorem fnV_calls (hτ : TabOk P τ) {run : RunT} (hrun : RunOk P run) {A : An} {f : FuncId} {fi : FI} (hok : fi.Ok P f) {ps : List PS} {xs : denPS ps} {Q : V → Prop} (h : fnV τ run A fi ps xs Q) {w : World} {S : Nat → Prop}
    (hS : Sok P w S) {args : Array Value} (ra : Reps P ⟨w,S,fun _ => none⟩ (toVs ps xs) args.toList) :
    Calls P f args w fun e w2 => ∃ v S2 r,e = .returned v ∧ GrowS w S w2 S2 ∧ Rep P ⟨w2,S2,fun _ => none⟩ r v ∧ Q r := by
  obtain ⟨nt,res,code⟩ := fi
  obtain ⟨fn,h1,h2,h3,h4,h5⟩ := id hok
  unfold fnV at h
  simp only at h h3 h4
  split at h
  · exact h.elim
  · rename_i hlen
    have g0 : Good P ⟨w,S,fun _ => none⟩ [] := good_nil hS
    have hrel := enter_rel (nx := 0) (nt := nt) g0 (fun _ _ => rfl) ra (Nat.le_of_ble_eq_true hlen)
    have hin : CallsIn (fz none) 0 P f args w fun e w2 => ∃ v S2 r,e = .returned v ∧ GrowS w S w2 S2 ∧ Rep P ⟨w2,S2,fun _ => none⟩ r v ∧ Q r := by
      refine callsIn_of_wp_marks h1 h2 trivial ?_
      rw [h3]
      refine hrun A [] none code _ _ ⟨⟨w,S,fun _ => none⟩,[]⟩ _ h _ w hrel (fun e s1 a1 w1 hi hk hr1 => ?_)
      have fin : isEnd e = true → LeavesInM (fz none) 0 P fn a1.tmps (fun e w2 => ∃ v S2 r,e = .returned v ∧ GrowS w S w2 S2 ∧ Rep P ⟨w2,S2,fun _ => none⟩ r v ∧ Q r) a1.defers .returning w1 := fun he => by
        rw [he] at hk
        simp only at hk
        split at hk
        · exact hk.elim
        · rename_i v s2 hf
          split at hk
          · rename_i v' ks hl
            · refine leave_ok hτ (fi := ⟨nt,res,code⟩) h4 hf hr1 (fun u E' haft hu => ?_)
              have hno : ∀ b,¬ ownB ⟨w,S,fun _ => none⟩ [] b := fun b h => (by obtain ⟨l,o,L,h,_⟩ := h;cases h)
              obtain ⟨S',k1,k2,_,k4,k5,k6⟩ := lend_ok hl haft.good (.cons hu .nil)
              have st := haft.step
              refine ⟨u,S',v',rfl,⟨haft.drawn,st.os,st.tape,st.output,st.size,fun b hb => st.frame b hb (hno b),fun b hb => k1 b (st.ext.S b hb).1,fun b hb => ?_,k2⟩,closed_rep (E := ⟨E'.w,S',E'.loc⟩) (E' := ⟨E'.w,S',fun _ => none⟩) (fun b hb => ⟨hb,rfl⟩) k5.head (by simp only [fkL] at k4;split at k4 <;> first | (cases k4;done) | assumption),hk⟩
              rcases k6 b hb with h | h
              · rcases st.st b h with h | h | h
                · exact .inl h
                · exact .inr h
                · exact absurd h (hno b)
              · rcases st.own b h with h | h
                · exact .inr h
                · exact absurd h (hno b)
          · exact hk.elim
      cases e with
      | normal => exact fin rfl
      | ret => exact fin rfl
      | _ => exact hk.elim
    exact callsIn_wide.1 hin
def lenOk : (T : Ty) → T.den → Prop
  | .sl t,l => List.length (α := t.den) l ≤ 9223372036854775807 ∧ ∀ x ∈ (l : List t.den),lenOk t x
  | .pair a b,x => lenOk a x.1 ∧ lenOk b x.2
  | _,_ => True
def lenPS : (ps : List PS) → denPS ps → Prop
  | [],_ => True
  | .d T :: l,x => lenOk T x.1 ∧ lenPS l x.2
  | .e T :: l,x => lenOk T x.1 ∧ lenPS l x.2
  | .f _ _ :: l,x => lenPS l x.2
theorem cells_len {w : World} {S : Nat → Prop} : ∀ {T : Ty} {x : T.den} {cs : List Value},Cells w S T x cs → lenOk T x
  | .int _,_,_,_ => trivial
  | .bool,_,_,_ => trivial
  | .str,_,_,_ => trivial
  | .unit,_,_,_ => trivial
  | .pair a b,x,cs,⟨c1,c2,_,h1,h2⟩ => ⟨cells_len h1,cells_len h2⟩
  | .sl t,l,cs,⟨a,c,_,hc,hl⟩ => ⟨Nat.le_trans hc.1 hc.2,fun x hx => by
      obtain ⟨i,hi⟩ := List.getElem?_of_mem hx
      obtain ⟨b,off,_,_,h⟩ := hl (fun e => by subst e;simp at hi)
      obtain ⟨cs',h1,_⟩ := h i x hi
      exact cells_len h1⟩
theorem flat_len {E : Env} : ∀ {T : Ty} {x : T.den},(∀ v ∈ flat T x,∃ c,Rep P E v c) → lenOk T x
  | .int _,_,_ => trivial
  | .bool,_,_ => trivial
  | .str,_,_ => trivial
  | .unit,_,_ => trivial
  | .pair a b,x,h => ⟨flat_len fun v hv => h v (List.mem_append_left _ hv),flat_len fun v hv => h v (List.mem_append_right _ hv)⟩
  | .sl t,l,h => by
    obtain ⟨c,hc⟩ := h (.d (.sl t) l) (by simp [flat])
    exact cells_len (T := .sl t) (sl_inv hc)
theorem reps_mem {E : Env} {vs : List V} {cs : List Value} (r : Reps P E vs cs) {v : V} (hv : v ∈ vs) : ∃ c,Rep P E v c := by
  obtain ⟨i,hi⟩ := List.getElem?_of_mem hv
  have hlt := (List.getElem?_eq_some_iff.1 hi).1
  have := r.2 i hlt
  rw [List.getD_eq_getElem?_getD,hi] at this
  exact ⟨_,this⟩
theorem arg_len {E : Env} : ∀ {T : Ty} {x : T.den} {c : Value},Rep P E (argV T x) c → lenOk T x
  | .pair a b,x,c,r => by
    obtain ⟨ca,rfl,rs⟩ := agg_inv (show Rep P E (.agg (flat (.pair a b) x)) c from r)
    exact flat_len fun v hv => reps_mem rs hv
  | .int _,_,_,_ => trivial
  | .bool,_,_,_ => trivial
  | .str,_,_,_ => trivial
  | .unit,_,_,_ => trivial
  | .sl t,l,c,r => cells_len (T := .sl t) (sl_inv r)
theorem toVs_len {E : Env} : ∀ {ps : List PS} {xs : denPS ps} {cs : List Value},Reps P E (toVs ps xs) cs → lenPS ps xs
  | [],_,_,_ => trivial
  | .d T :: l,x,c :: cs,r => ⟨arg_len r.head,toVs_len r.tail⟩
  | .d T :: l,x,[],r => absurd r.1 (by simp [toVs])
  | .e T :: l,x,c :: cs,r => by
    refine ⟨?_,toVs_len r.tail⟩
    have h : Rep P E (.er (flat T x.1)) c := r.head
    cases h with
    | er f _ _ hr =>
      refine flat_len (P := P) (E := E) fun v hv => ?_
      obtain ⟨i,hi⟩ := List.getElem?_of_mem hv
      have hlt := (List.getElem?_eq_some_iff.1 hi).1
      have := hr i hlt
      rw [List.getD_eq_getElem?_getD,hi] at this
      exact ⟨_,this⟩
  | .e T :: l,x,[],r => absurd r.1 (by simp [toVs])
  | .f _ _ :: l,x,c :: cs,r => toVs_len (ps := l) r.tail
  | .f _ _ :: l,x,[],r => absurd r.1 (by simp [toVs])
theorem conOk_of (hτ : TabOk P τ) {run : RunT} (hrun : RunOk P run) {A : An} {f : FuncId} {fi : FI} (hok : fi.Ok P f) {ps : List PS} {rs : List Ty} {pre : Option (denPS ps → Prop)} {fn : denPS ps → denL rs}
    (h : ∀ xs,lenPS ps xs → okP (Con.ob ⟨ps,pre,fun xs => resV rs (fn xs)⟩ xs) → fnW τ run A fi ps rs xs (fun r => r = fn xs)) : ConOk P f ⟨ps,pre,fun xs => resV rs (fn xs)⟩ :=
  ⟨hok.call,fun w S xs hS hp args ra => Calls.mono (fnW_calls hτ hrun hok (h xs (toVs_len ra) hp) hS ra) fun e w2 ⟨v,S2,r,h1,h2,h3,h4⟩ => ⟨v,S2,h1,h2,by subst h4;exact h3⟩⟩
theorem conOk_val (hτ : TabOk P τ) {run : RunT} (hrun : RunOk P run) {A : An} {f : FuncId} {fi : FI} (hok : fi.Ok P f) {c : Con}
    (h : ∀ xs,lenPS c.ps xs → okP (c.ob xs) → fnV τ run A fi c.ps xs (fun r => r = c.res xs)) : ConOk P f c :=
  ⟨hok.call,fun w S xs hS hp args ra => Calls.mono (fnV_calls hτ hrun hok (h xs (toVs_len ra) hp) hS ra) fun e w2 ⟨v,S2,r,h1,h2,h3,h4⟩ => ⟨v,S2,h1,h2,by subst h4;exact h3⟩⟩
end Go.Proofs.YtldikbpclaeajaaGreatDoor
namespace Go.Proofs.YtldikbpclaeajaaGreatDoor
open Go
set_option linter.unusedVariables false
variable {P : Program} {τ : TyTab} {κ : ConTab} {φ : Nat → Option FX}
def insN (n : Nat) (l : List Nat) : List Nat := match memN n l with
  | true => l
  | false => n :: l
def unionN : List Nat → List Nat → List Nat
  | [],l => l
  | n :: r,l => unionN r (insN n l)
def getP (i : Nat) (T : List (Nat × List Nat)) : List Nat := match find i T with
  | some l => l
  | none => []
def edgesP (T : List (Nat × List Nat)) : List Edge → List Nat
  | [] => []
  | e :: r => match Region.binds .any e with
    | true => insN e.on (unionN (getP e.on T) (edgesP T r))
    | false => edgesP T r
def predT : Nat → List Oper → List (Nat × List Nat) → List (Nat × List Nat)
  | _,[],T => T
  | i,⟨_,_,_,_,af,_⟩ :: r,T => match edgesP T af.toList with
    | l => predT (i + 1) r ((i,l) :: T)
def anyE (T : List (Nat × List Nat)) (j : Nat) : List Edge → Bool
  | [] => false
  | e :: r => match Region.binds .any e with
    | true => match Nat.beq e.on j with
      | true => true
      | false => match memN j (getP e.on T) with
        | true => true
        | false => anyE T j r
    | false => anyE T j r
def allE (T : List (Nat × List Nat)) (af : List Edge) (i : Nat) : List Nat → Bool
  | [] => true
  | j :: r => match anyE T j af with
    | true => match Nat.blt j i with
      | true => allE T af i r
      | false => false
    | false => false
def inE (ps : List Nat) : List Edge → Bool
  | [] => true
  | e :: r => match Region.binds .any e with
    | true => match memN e.on ps with
      | true => inE ps r
      | false => false
    | false => inE ps r
def predOk (T : List (Nat × List Nat)) : Nat → List Oper → Bool
  | _,[] => true
  | i,⟨_,_,_,_,af,_⟩ :: r => match getP i T with
    | ps => match inE ps af.toList with
      | true => match allE T af.toList i ps with
        | true => predOk T (i + 1) r
        | false => false
      | false => false
theorem inE_mem {ps : List Nat} : ∀ {l : List Edge},inE ps l = true → ∀ e ∈ l,Region.binds .any e = true → e.on ∈ ps
  | [],_,e,h,_ => by simp at h
  | e :: r,h,e',he,hb => by
    simp only [inE] at h
    split at h
    · split at h
      · rename_i h1
        rcases List.mem_cons.1 he with rfl | he
        · exact memN_iff.1 h1
        · exact inE_mem h e' he hb
      · cases h
    · rename_i h0
      rcases List.mem_cons.1 he with rfl | he
      · rw [hb] at h0;cases h0
      · exact inE_mem h e' he hb
theorem anyE_mem {T : List (Nat × List Nat)} {j : Nat} : ∀ {l : List Edge},anyE T j l = true → ∃ e ∈ l,Region.binds .any e = true ∧ (e.on = j ∨ j ∈ getP e.on T)
  | [],h => by cases h
  | e :: r,h => by
    simp only [anyE] at h
    have rec' : anyE T j r = true → ∃ e' ∈ e :: r,Region.binds .any e' = true ∧ (e'.on = j ∨ j ∈ getP e'.on T) := fun h => by
      obtain ⟨e',h1,h2⟩ := anyE_mem h;exact ⟨e',List.mem_cons_of_mem _ h1,h2⟩
    split at h
    · rename_i hb
      split at h
      · rename_i h1;exact ⟨e,by simp,hb,.inl (Nat.eq_of_beq_eq_true h1)⟩
      · split at h
        · rename_i h1;exact ⟨e,by simp,hb,.inr (memN_iff.1 h1)⟩
        · exact rec' h
    · exact rec' h
theorem allE_mem {T : List (Nat × List Nat)} {af : List Edge} {i : Nat} : ∀ {l : List Nat},allE T af i l = true → ∀ j ∈ l,anyE T j af = true ∧ j < i
  | [],_,j,h => by simp at h
  | k :: r,h,j,hj => by
    simp only [allE] at h
    split at h
    · rename_i h1
      split at h
      · rename_i h2
        rcases List.mem_cons.1 hj with rfl | hj
        · exact ⟨h1,Nat.le_of_ble_eq_true h2⟩
        · exact allE_mem h j hj
      · cases h
    · cases h
structure PT (ops : Array Oper) (T : List (Nat × List Nat)) : Prop where
  lt : ∀ i j,i < ops.size → j ∈ getP i T → j < i
  edge : ∀ i o e,ops[i]? = some o → e ∈ o.after → Region.binds .any e = true → e.on ∈ getP i T
  back : ∀ i o j,ops[i]? = some o → j ∈ getP i T → ∃ e ∈ o.after,Region.binds .any e = true ∧ (e.on = j ∨ j ∈ getP e.on T)
theorem predOk_get {T : List (Nat × List Nat)} : ∀ {l : List Oper} {i j : Nat} {o : Oper},predOk T i l = true → l[j]? = some o → inE (getP (i + j) T) o.after.toList = true ∧ allE T o.after.toList (i + j) (getP (i + j) T) = true
  | [],_,_,_,_,h => by simp at h
  | ⟨_,_,_,_,af,_⟩ :: r,i,j,o,h,hj => by
    simp only [predOk] at h
    split at h
    · rename_i h1
      split at h
      · rename_i h2
        cases j with
        | zero => simp at hj;subst hj;exact ⟨h1,h2⟩
        | succ j =>
          have := predOk_get (j := j) h (by simpa using hj)
          rw [show i + 1 + j = i + (j + 1) from by omega] at this
          exact this
      · cases h
    · cases h
theorem PT.of {ops : Array Oper} {T : List (Nat × List Nat)} (h : predOk T 0 ops.toList = true) : PT ops T := by
  have get : ∀ i o,ops[i]? = some o → inE (getP i T) o.after.toList = true ∧ allE T o.after.toList i (getP i T) = true := fun i o hi => by
    have := predOk_get (i := 0) (j := i) h (by simpa using hi)
    simpa using this
  refine ⟨fun i j hi hj => ?_,fun i o e hi he hb => inE_mem (get i o hi).1 e (Array.mem_toList_iff.2 he) hb,fun i o j hi hj => ?_⟩
  · exact (allE_mem (get i ops[i] (Array.getElem?_eq_getElem hi)).2 j hj).2
  · obtain ⟨e,h1,h2,h3⟩ := anyE_mem (allE_mem (get i o hi).2 j hj).1
    exact ⟨e,Array.mem_toList_iff.1 h1,h2,h3⟩
structure Rc where
  i : Nat
  dst : Option Nat
  v : V
  ed : Objs
  ks : List Nat
def keysO : Objs → List Nat
  | [] => []
  | (l,_) :: r => l :: keysO r
theorem getO_append {l : Nat} : ∀ {a b : Objs},getO l (a ++ b) = (match getO l a with | some o => some o | none => getO l b)
  | [],_ => rfl
  | (k,o) :: r,b => by
    rw [List.cons_append,getO_cons,getO_cons]
    split
    · rfl
    · exact getO_append
theorem keysO_mem {l : Nat} {o : Obj} : ∀ {a : Objs},getO l a = some o → l ∈ keysO a
  | [],h => by cases h
  | (k,p) :: r,h => by
    rw [getO_cons] at h
    split at h
    · rename_i e;simp [keysO,e]
    · exact List.mem_cons_of_mem _ (keysO_mem h)
def Rc.app (r : Rc) (s : St) : St := match r,s with
  | ⟨_, dst, v, ed, _⟩, ⟨nt, tmps, objs, nx, df, wr, di, mv⟩ => ⟨nt, (match dst with
      | some d => (d,v) :: tmps
      | none => tmps),ed ++ objs,nx,df,(match dst with
      | some d => d :: wr
      | none => wr),keysO ed ++ di,mv⟩
def replay (p : Nat → Bool) : List Rc → St → St
  | [],s => s
  | r :: rs,s => replay p rs (if p r.i then r.app s else s)
def lastV (p : Nat → Bool) (t : Nat) : List Rc → Option V
  | [] => none
  | r :: rs => match lastV p t rs with
    | some v => some v
    | none => if p r.i = true ∧ r.dst = some t then some r.v else none
def lastO (p : Nat → Bool) (l : Nat) : List Rc → Option Obj
  | [] => none
  | r :: rs => match lastO p l rs with
    | some o => some o
    | none => if p r.i = true then getO l r.ed else none
theorem app_look {r : Rc} {s : St} {t : Nat} : look t (r.app s).tmps = if r.dst = some t then r.v else look t s.tmps := by
  obtain ⟨i,dst,v,ed,ks⟩ := r
  cases s
  cases dst with
  | none => simp [Rc.app]
  | some d => simp [Rc.app,look_cons]
theorem app_getO {r : Rc} {s : St} {l : Nat} : getO l (r.app s).objs = (match getO l r.ed with | some o => some o | none => getO l s.objs) := by
  obtain ⟨i,dst,v,ed,ks⟩ := r
  cases s
  simp only [Rc.app,getO_append]
theorem replay_look {p : Nat → Bool} {t : Nat} : ∀ {R : List Rc} {s : St},look t (replay p R s).tmps = (match lastV p t R with | some v => v | none => look t s.tmps)
  | [],_ => rfl
  | r :: rs,s => by
    simp only [replay,lastV]
    rw [replay_look (R := rs)]
    cases h : lastV p t rs with
    | some v => rfl
    | none =>
      simp only
      by_cases hp : p r.i = true
      · rw [if_pos hp,app_look]
        by_cases hd : r.dst = some t
        · rw [if_pos hd,if_pos ⟨hp,hd⟩]
        · rw [if_neg hd,if_neg (fun h => hd h.2)]
      · rw [if_neg hp,if_neg (fun h => hp h.1)]
theorem replay_getO {p : Nat → Bool} {l : Nat} : ∀ {R : List Rc} {s : St},getO l (replay p R s).objs = (match lastO p l R with | some o => some o | none => getO l s.objs)
  | [],_ => rfl
  | r :: rs,s => by
    simp only [replay,lastO]
    rw [replay_getO (R := rs)]
    cases h : lastO p l rs with
    | some v => rfl
    | none =>
      simp only
      by_cases hp : p r.i = true
      · rw [if_pos hp,if_pos hp,app_getO]
      · rw [if_neg hp,if_neg hp]
theorem replay_rest {p : Nat → Bool} : ∀ {R : List Rc} {s : St},(replay p R s).nt = s.nt ∧ (replay p R s).nx = s.nx ∧ (replay p R s).df = s.df ∧ (replay p R s).mv = s.mv
  | [],_ => ⟨rfl,rfl,rfl,rfl⟩
  | r :: rs,s => by
    have h := replay_rest (p := p) (R := rs) (s := if p r.i then r.app s else s)
    have e : (if p r.i then r.app s else s).nt = s.nt ∧ (if p r.i then r.app s else s).nx = s.nx ∧ (if p r.i then r.app s else s).df = s.df ∧ (if p r.i then r.app s else s).mv = s.mv := by
      split
      · cases s;exact ⟨rfl,rfl,rfl,rfl⟩
      · exact ⟨rfl,rfl,rfl,rfl⟩
    exact ⟨h.1.trans e.1,h.2.1.trans e.2.1,h.2.2.1.trans e.2.2.1,h.2.2.2.trans e.2.2.2⟩
theorem lastO_congr {p q : Nat → Bool} {l : Nat} : ∀ {R : List Rc},(∀ r ∈ R,∀ o,getO l r.ed = some o → p r.i = q r.i) → lastO p l R = lastO q l R
  | [],_ => rfl
  | r :: rs,h => by
    simp only [lastO]
    rw [lastO_congr (R := rs) (fun r' hr' => h r' (List.mem_cons_of_mem _ hr'))]
    have h0 := h r (by simp)
    cases hed : getO l r.ed with
    | none => simp
    | some x => rw [h0 x hed]
theorem lastV_congr {p q : Nat → Bool} {t : Nat} : ∀ {R : List Rc},(∀ r ∈ R,r.dst = some t → p r.i = q r.i) → lastV p t R = lastV q t R
  | [],_ => rfl
  | r :: rs,h => by
    simp only [lastV]
    rw [lastV_congr (R := rs) (fun r' hr' => h r' (List.mem_cons_of_mem _ hr'))]
    by_cases hk : r.dst = some t
    · rw [h r (by simp) hk]
    · rw [if_neg (fun h => hk h.2),if_neg (fun h => hk h.2)]
theorem Rel.congr {cx : Cx} {s s' : St} {a : Act} {E : Env} (r : RelE P cx s a E) (ht : ∀ t,look t s'.tmps = look t s.tmps) (ho : ∀ l,getO l s'.objs = getO l s.objs) (hnt : s'.nt = s.nt) (hdf : s'.df = s.df) (hmv : s'.mv = s.mv) (hf : ∀ l,s'.nx ≤ l → E.loc l = none) : RelE P cx s' a E := by
  have tr : ∀ l o,getO l s'.objs = some o → ∃ o1 L,getO l s.objs = some o1 ∧ E.loc l = some L ∧ E.loc l = some L ∧ (∀ L,o.has L → o1.has L) ∧ (ObjAt P E L o1 → ObjAt P E L o) := fun l o h => by
    rw [ho] at h
    obtain ⟨L,hL,_⟩ := r.good.at_ l o h
    exact ⟨o,L,h,hL,hL,fun _ h => h,fun h => h⟩
  exact ⟨r.good.sub rfl rfl tr,hf,by rw [hmv];exact r.step.swap tr (fun l hl => by rw [ho] at hl;exact hl),r.drawn,by rw [hnt];exact r.size,by rw [hdf];exact r.df,fun t => by rw [ht];exact r.rep t⟩
end Go.Proofs.YtldikbpclaeajaaGreatDoor
namespace Go.Proofs.YtldikbpclaeajaaGreatDoor
open Go
set_option linter.unusedVariables false
variable {P : Program} {τ : TyTab} {κ : ConTab} {φ : Nat → Option FX}
mutual
def V.ks : V → List Nat
  | .fn _ a b => unionN (ksL a) (ksL b)
  | .agg cs => ksL cs
  | .tup cs => ksL cs
  | .er cs => ksL cs
  | .when _ v => V.ks v
  | .opt _ v => V.ks v
  | .ref k _ => [k]
  | .rref k _ _ => [k]
  | .osl k => [k]
  | .osp k _ _ => [k]
  | .map k => [k]
  | .yl k => [k]
  | .bsl k _ => [k]
  | _ => []
def ksL : List V → List Nat
  | [] => []
  | v :: r => unionN (V.ks v) (ksL r)
end
def restr (objs : Objs) : List Nat → Objs
  | [] => []
  | l :: r => match getO l objs with
    | some o => (l,o) :: restr objs r
    | none => restr objs r
def boxKeys (objs : Objs) : List Nat → List Nat
  | [] => []
  | l :: r => match getO l objs with
    | some (.box cs) | some (.vrow _ _ cs _) => unionN (ksL cs) (boxKeys objs r)
    | _ => boxKeys objs r
def clos (op : Op) (objs : Objs) (ks : List Nat) : List Nat := match op with
  | .load .. | .fieldAddr .. | .indexAddr .. => ks
  | _ => match unionN (boxKeys objs ks) ks with
    | k1 => unionN (boxKeys objs k1) k1
theorem restr_get {objs : Objs} {l : Nat} {o : Obj} : ∀ {ks : List Nat},getO l (restr objs ks) = some o → l ∈ ks ∧ getO l objs = some o
  | [],h => by cases h
  | k :: r,h => by
    simp only [restr] at h
    split at h
    · rename_i p hp
      rw [getO_cons] at h
      split at h
      · rename_i e;subst e;cases h;exact ⟨by simp,hp⟩
      · have := restr_get h;exact ⟨List.mem_cons_of_mem _ this.1,this.2⟩
    · have := restr_get h;exact ⟨List.mem_cons_of_mem _ this.1,this.2⟩
def valOf (T : List (Nat × List Nat)) (ds : List (Nat × Nat)) (i : Nat) (base cur : List (Nat × V)) (t : Nat) : V := match find t ds with
  | none => look t base
  | some j => match memN j (getP i T) with
    | true => look t cur
    | false => match Nat.beq j i with
      | true => look t base
      | false => match memN i (getP j T) with
        | true => look t base
        | false => .any
def tmOf (T : List (Nat × List Nat)) (ds : List (Nat × Nat)) (i : Nat) (base cur : List (Nat × V)) : List Operand → List (Nat × V)
  | [] => []
  | .tmp t :: r => (t,valOf T ds i base cur t) :: tmOf T ds i base cur r
  | _ :: r => tmOf T ds i base cur r
theorem tmOf_look {T : List (Nat × List Nat)} {ds : List (Nat × Nat)} {i : Nat} {base cur : List (Nat × V)} {t : Nat} : ∀ {l : List Operand},look t (tmOf T ds i base cur l) = valOf T ds i base cur t ∨ look t (tmOf T ds i base cur l) = .any
  | [] => .inr rfl
  | x :: r => by
    cases x with
    | tmp u =>
      simp only [tmOf,look_cons]
      split
      · rename_i e;subst e;exact .inl rfl
      · exact tmOf_look (l := r)
    | _ => exact tmOf_look (l := r)
def datO (op : Op) (out : Out) : Out := match op with
  | .buildSlice _ (_ + 1) _ => match out with
    | ⟨ob,.osl k,some (l,.row T xs,false)⟩ => match Nat.beq k l with
      | true => ⟨ob,.d (.sl T) xs,some (l,.dead,false)⟩
      | false => out
    | o => o
  | _ => out
theorem datO_ob (op : Op) (out : Out) : (datO op out).ob = out.ob := by
  unfold datO
  split
  · split
    · split <;> rfl
    · rfl
  · rfl
theorem datO_did {r : Option Nat} {o : Oper} {a : Act} {E : Env} {objs : Objs} {out : Out} (op : Op) (h : Did P r o a E objs out) : Did P r o a E objs (datO op out) := by
  unfold datO
  split
  · split
    · rename_i ob k l T xs
      split
      · rename_i hk
        have hk := Nat.eq_of_beq_eq_true hk
        subst hk
        intro next Q hn
        refine h next Q (fun E' v g st hdr hv => ?_)
        have ho : getO k ((k,Obj.row T xs) :: objs) = some (.row T xs) := by rw [getO_cons,if_pos rfl]
        obtain ⟨L,hL,_⟩ := g.at_ k _ ho
        obtain ⟨g2,s2⟩ := g.still ho hL
        have hr := frz_rep g ho hL rfl (v := .osl k) rfl hv
        simp only [frz,Nat.beq_refl] at hr
        have tr : ∀ l' o, getO l' ((k, Obj.dead) :: objs) = some o → ∃ o1 L', getO l' ((k, Obj.dead) :: (k, .row T xs) :: objs) = some o1 ∧ (E'.still L.b ((Obj.row T xs).has L)).loc l' = some L' ∧ (E'.still L.b ((Obj.row T xs).has L)).loc l' = some L' ∧ (∀ L, o.has L → o1.has L) ∧
            (ObjAt P (E'.still L.b ((Obj.row T xs).has L)) L' o1 → ObjAt P (E'.still L.b ((Obj.row T xs).has L)) L' o) := by
          intro l' o h
          have : getO l' ((k,Obj.dead) :: (k,.row T xs) :: objs) = some o := by
            rw [getO_cons] at h ⊢
            split at h
            · rename_i e;rw [if_pos e];exact h
            · rename_i e;rw [if_neg e,getO_cons,if_neg e];exact h
          obtain ⟨L',hL',_⟩ := g2.at_ l' o this
          exact ⟨o,L',this,hL',hL',fun _ h => h,fun h => h⟩
        refine hn (E'.still L.b ((Obj.row T xs).has L)) v (g2.sub rfl rfl tr) (Step.swap (P := P) (by simpa [moved,edit] using st.trans s2) tr (fun l' hl' => ?_)) hdr hr
        obtain ⟨h1,h2⟩ := getO_none_cons hl'
        rw [getO_cons,if_neg (Ne.symm h1),getO_cons,if_neg (Ne.symm h1)];exact h2
      · exact h
    · exact h
  · exact h
def edM (op : Op) (os : Objs) (n : Nat) (v : V) : Option (Nat × Obj × Bool) → Option (V × Objs)
  | none => some (v,[])
  | some (l,o,false) => match Nat.beq l n with
    | true => some (v,[(l,o)])
    | false => match getO l os with
      | some _ => some (v,[(l,o)])
      | none => none
  | some (l,o,true) => match op with
    | .call { callee := .builtin .append,.. } => match o with
      | .row T zs => some (.osl n,[(n,.row T zs),(l,.dead)])
      | _ => none
    | .call { callee := .value _,.. } => match o with
      | .row T zs => some (.osl n,[(n,.row T zs),(l,.dead)])
      | _ => none
    | _ => none
def frzR : List Nat → Objs → List (Nat × V) → Option (List (Nat × V) × Objs × Objs)
  | [],os,tm => some (tm,os,[])
  | k :: r,os,tm => match getO k os with
    | some o => match frzR r ((k,.dead) :: os) (substT (frz k o) tm) with
      | some (tm',os',ds) => some (tm',os',ds ++ [(k,.dead)])
      | none => none
    | none => none
def effM (τ : TyTab) (κ : ConTab) (op : Op) (tm : List (Nat × V)) (os : Objs) (n : Nat) : Option (Option Prop × V × Objs) := match frzR (toFrz τ κ op tm os) os tm with
  | none => none
  | some (tm',os',ds) => match effQ τ κ op tm' os' n with
    | none => none
    | some out => match datO op out with
      | ⟨ob,v,ed⟩ => match edM op os' n v ed with
        | none => none
        | some (v',es) => some (ob,v',es ++ ds)
def DidM (P : Program) (r : Option Nat) (o : Oper) (a : Act) (E : Env) (objs : Objs) (v : V) (es : Objs) : Prop :=
  ∀ (next : Act → World → Prop) (Q : Post),(∀ E' u,Good P E' (es ++ objs) → Step E objs E' (es ++ objs) [] → E.w.drawn ≤ E'.w.drawn → Rep P E' v u → next (a.put o.dst u) E'.w) → o.wpIn (fz r) 0 P a E.w next Q
theorem Sub.cons {os objs : Objs} (h : Sub os objs) (k : Nat) (o : Obj) : Sub ((k,o) :: os) ((k,o) :: objs) := fun l x hx => by
  rw [getO_cons] at hx ⊢
  split at hx
  · rename_i e;rw [if_pos e];exact hx
  · rename_i e;rw [if_neg e];exact h l x hx
theorem frzR_ok {ρ : Operand → Value} {ops : List Operand} (hρ : ∀ x, (∃ t, x = .tmp t) ∨ ∀ E tm, Rep P E (evV tm x) (ρ x)) : ∀ {ks : List Nat} {os objs : Objs} {tm tm' : List (Nat × V)} {os' ds : Objs} {E : Env}, frzR ks os tm = some (tm', os', ds) → Sub os objs → Good P E objs → (∀ x ∈ ops, Rep P E (evV tm x) (ρ x)) →
    ∃ E',E'.w = E.w ∧ E'.loc = E.loc ∧ Good P E' (ds ++ objs) ∧ Step E objs E' (ds ++ objs) [] ∧ Sub os' (ds ++ objs) ∧ (∀ x ∈ ops,Rep P E' (evV tm' x) (ρ x)) ∧ (∀ l x,getO l ds = some x → ∃ y,getO l os = some y) ∧ (∀ l x,getO l os' = some x → ∃ y,getO l os = some y)
  | [],os,objs,tm,tm',os',ds,E,h,hs,g,hr => by
    cases h
    exact ⟨E,rfl,rfl,g,.refl _ _ _,hs,hr,fun l x h => (by cases h),fun l x h => ⟨x,h⟩⟩
  | k :: r,os,objs,tm,tm',os',ds,E,h,hs,g,hr => by
    simp only [frzR] at h
    split at h
    · rename_i o ho
      split at h
      · rename_i tm2 os2 ds2 h2
        cases h
        obtain ⟨L,hL,_⟩ := g.at_ k o (hs k o ho)
        obtain ⟨g1,s1⟩ := g.still (hs k o ho) hL
        have hx : Ext E (E.still L.b (o.has L)) [] := ⟨fun b hs => ⟨.inl hs,rfl⟩,fun j K _ hK => hK⟩
        have hr1 : ∀ x ∈ ops,Rep P (E.still L.b (o.has L)) (evV (substT (frz k o) tm) x) (ρ x) := fun x hx' => by
          rcases hρ x with ⟨t,rfl⟩ | h
          · show Rep P _ (look t (substT _ tm)) _
            rw [substT_map,look_subst]
            exact subst_rep hx.S (fun v c hr h => frz_rep g (hs k o ho) hL rfl hr h) (hr _ hx')
          · exact h _ _
        obtain ⟨E',e1,e2,g2,s2,k1,k2,k3,k4⟩ := frzR_ok hρ h2 (hs.cons k .dead) g1 hr1
        have ee : ds2 ++ (k,Obj.dead) :: objs = ds2 ++ [(k,.dead)] ++ objs := by simp
        rw [ee] at g2 s2 k1
        have back : ∀ l,(∃ y,getO l ((k,Obj.dead) :: os) = some y) → ∃ y,getO l os = some y := fun l ⟨y,hy⟩ => by
          rw [getO_cons] at hy
          split at hy
          · rename_i e;subst e;exact ⟨o,ho⟩
          · exact ⟨y,hy⟩
        refine ⟨E',e1,e2,g2,by simpa using s1.trans s2,k1,k2,fun l x hl => ?_,fun l x hl => back l (k4 l x hl)⟩
        rw [getO_append] at hl
        split at hl
        · rename_i y hy;exact back l (k3 l y hy)
        · rw [getO_cons] at hl
          split at hl
          · rename_i e;subst e;exact ⟨o,ho⟩
          · cases hl
      · cases h
    · cases h
theorem effM_did (hτ : TabOk P τ) (hκ : ConsOk P κ) {r : Option Nat} {o : Oper} {tm : List (Nat × V)} {os objs : Objs} {n : Nat} {ob : Option Prop} {v : V} {es : Objs} {E : Env} {a : Act} (h : effM τ κ o.op tm os n = some (ob, v, es)) (hs : Sub os objs) (ho : okP ob) (g : Good P E objs)
    (hf : E.loc n = none) (hr : ∀ x ∈ o.op.operands,Rep P E (evV tm x) (a.eval x)) : DidM P r o a E objs v es ∧ (∀ l x,getO l es = some x → l = n ∨ ∃ y,getO l os = some y) := by
  unfold effM at h
  split at h
  · cases h
  · rename_i tm' os' ds hfz
    have hρ : ∀ x,(∃ t,x = Operand.tmp t) ∨ ∀ E tm,Rep P E (evV tm x) (a.eval x) := fun x => by
      cases x with
      | tmp t => exact .inl ⟨t,rfl⟩
      | const v => exact .inr fun E tm => vconst_rep v
      | global g => exact .inr fun E tm => .any _
      | func f => exact .inr fun E tm => .fn rfl rfl (fun j hj => by simp at hj) (fun j hj => by simp at hj)
    obtain ⟨E1,e1,e2,g1,s1,k1,k2,k3,k4⟩ := frzR_ok (ops := o.op.operands.toList) hρ hfz hs g (fun x hx => hr x (Array.mem_toList_iff.1 hx))
    split at h
    · cases h
    · rename_i out he
      generalize hdat : datO o.op out = out' at h
      obtain ⟨ob',v0,ed⟩ := out'
      simp only at h
      split at h
      · cases h
      · rename_i v' es' hed
        cases h
        have hob : okP out.ob := by rw [← datO_ob o.op out,hdat];exact ho
        have hf1 : E1.loc n = none := by rw [e2];exact hf
        have hd0 := effQ_did (r := r) (a := a) hτ hκ he k1 hob g1 hf1 (fun x hx => k2 x (Array.mem_toList_iff.2 hx))
        have hd1 := datO_did o.op hd0
        rw [hdat] at hd1
        have plain : ∀ es',(ed = none ∧ es' = [] ∨ ∃ l x,ed = some (l,x,false) ∧ es' = [(l,x)]) → DidM P r o a E objs v0 (es' ++ ds) := by
          intro es' hes next Q hn
          have := hd1 next Q
          rw [e1] at this
          refine this (fun E' u g' st hdr hu => hn E' u ?_ ?_ hdr hu)
          · rcases hes with ⟨rfl,rfl⟩ | ⟨l,x,rfl,rfl⟩
            · exact g'
            · exact g'
          · rcases hes with ⟨rfl,rfl⟩ | ⟨l,x,rfl,rfl⟩
            · simpa [edit,moved] using s1.trans st
            · simpa [edit,moved] using s1.trans st
        have keys : ∀ es',(∀ l x,getO l es' = some x → l = n ∨ ∃ y,getO l os' = some y) → ∀ l x,getO l (es' ++ ds) = some x → l = n ∨ ∃ y,getO l os = some y := fun es' hk l x hx => by
          rw [getO_append] at hx
          split at hx
          · rename_i y hy
            rcases hk l y hy with h | ⟨z,hz⟩
            · exact .inl h
            · exact .inr (k4 l z hz)
          · exact .inr (k3 l x hx)
        unfold edM at hed
        split at hed
        · cases hed
          exact ⟨plain [] (.inl ⟨rfl,rfl⟩),keys [] (fun l x h => by cases h)⟩
        · rename_i l x
          split at hed
          · rename_i hb
            cases hed
            exact ⟨plain _ (.inr ⟨l,x,rfl,rfl⟩),keys _ (fun l' x' h => by
              rw [getO_cons] at h
              split at h
              · rename_i e;rw [← e];exact .inl (Nat.eq_of_beq_eq_true hb)
              · cases h)⟩
          · split at hed
            · rename_i y hy
              cases hed
              exact ⟨plain _ (.inr ⟨l,x,rfl,rfl⟩),keys _ (fun l' x' h => by
                rw [getO_cons] at h
                split at h
                · rename_i e;rw [← e];exact .inr ⟨y,hy⟩
                · cases h)⟩
            · cases hed
        · rename_i l x
          obtain ⟨dst,op,ty,po,af,guard⟩ := o
          split at hed
          · rename_i args tys hop
            split at hed
            · rename_i T zs
              cases hed
              simp only at hop
              subst hop
              have hdo : out = ⟨ob,v0,some (l,.row T zs,true)⟩ := by rw [← hdat];rfl
              subst hdo
              simp only [effQ,eff] at he
              obtain ⟨al⟩ := args
              obtain ⟨tl⟩ := tys
              simp only [effBuiltin] at he
              split at he
              · split at he
                · rename_i t u _ x y e3
                  obtain ⟨b,c,rfl,rfl,rfl⟩ := mapEv_two e3
                  have rb := k2 b (by simp [Op.operands,Call.operands])
                  have rc := k2 c (by simp [Op.operands,Call.operands])
                  obtain ⟨rfl,L,xs,c1,c2,w,K,row,c3,c4,c5,c6,c7⟩ := effAppend_core (ty := ty) hτ he k1 hob g1 rb rc
                  obtain ⟨E',d1,d2,d3,d4⟩ := g1.remake c1 c2 hf1 c3 c4 c5 c6
                  refine ⟨fun next Q hn => ⟨fun _ _ => trivial,?_⟩,keys _ (fun l' x' h => ?_)⟩
                  · rw [Oper.semAt_eq _ _ _ (fun c => by simp)]
                    have hrun : (execOp a.eval ⟨dst,.call { callee := .builtin .append,args := ⟨[b,c]⟩,argTypes := ⟨[t,u]⟩ },ty,po,af,guard⟩).run P E.w = .ok (.value K.v) E'.w := by
                      have : execOp a.eval ⟨dst,.call { callee := .builtin .append,args := ⟨[b,c]⟩,argTypes := ⟨[t,u]⟩ },ty,po,af,guard⟩ = (do let v ← Builtin.append_ #[t,u] ty #[a.eval b,a.eval c];pure (Next.value v)) := by simp [execOp,resolve,invoke,builtin]
                      rw [this,← e1,d1]
                      simp [c7]
                    rw [hrun]
                    exact hn E' K.v (by simpa using d3) (by simpa using s1.trans d4) (by rw [← e1];exact run_drawn _ _ _ _ (by rw [d1];exact c7)) (.osl d2)
                  · rw [getO_cons] at h
                    split at h
                    · rename_i e;exact .inl e.symm
                    · rw [getO_cons] at h
                      split at h
                      · rename_i e
                        subst e
                        refine .inr ?_
                        unfold effAppend at he
                        split at he
                        · split at he
                          · split at he
                            · split at he
                              · split at he
                                · cases he
                                · split at he
                                  · split at he
                                    · rename_i hcs _;cases he;exact ⟨_,hcs⟩
                                    · cases he
                                  · cases he
                                · split at he
                                  · split at he
                                    · split at he
                                      · cases he
                                      · rename_i hcs _ _ _;cases he;exact ⟨_,hcs⟩
                                    · cases he
                                  · cases he
                                · cases he
                              · cases he
                            · split at he
                              · split at he
                                · split at he
                                  · cases he
                                  · split at he
                                    · split at he
                                      · rename_i hcs _;cases he;exact ⟨_,hcs⟩
                                      · cases he
                                    · cases he
                                  · cases he
                                · cases he
                              · cases he
                          · cases he
                        · cases he
                      · cases h
                · cases he
              · cases he
            · cases hed
          · rename_i x args tys hop
            split at hed
            · rename_i T zs
              cases hed
              simp only at hop
              subst hop
              have hdo : out = ⟨ob,v0,some (l,.row T zs,true)⟩ := by rw [← hdat];rfl
              subst hdo
              simp only [effQ] at he
              split at he
              · rename_i rc hrc
                obtain ⟨gf,q1,q2,T0,q3⟩ := row_run hκ hrc he k1 hob g1 (k2 x (by simp [Op.operands,Call.operands])) (mapEv_reps fun y hy => k2 y (by simp only [Op.operands,Call.operands];simp [Array.mem_toList_iff.1 hy]))
                rcases q3 with ⟨_,_,q4,_⟩ | ⟨l',L,xs,zs',q0,hL,q4,q5,hc⟩
                · cases q4
                · obtain ⟨rfl,hzz,_⟩ : l = l' ∧ Obj.row T zs = Obj.row T0 zs' ∧ True := by
                    have := Option.some.inj q5
                    simp only [Prod.mk.injEq] at this
                    exact ⟨this.1,this.2.1,trivial⟩
                  cases hzz
                  refine ⟨fun next Q hn => ?_,keys _ (fun l' x' h => ?_)⟩
                  · have hwp := call_wp (r := r) (o := ⟨dst,.call { callee := .value x,args := args,argTypes := tys },ty,po,af,guard⟩) (a := a) (E := E1) rfl q1 q2 hc (next := next) (Q := Q) (by
                      rintro e w2 ⟨K,rfl,row,c3,c4,c5,c6,c7⟩
                      obtain ⟨E',d1,d2,d3,d4⟩ := g1.remake (k1 _ _ q0) hL hf1 c3 c4 c5 c6
                      refine ⟨_,rfl,?_⟩
                      rw [← d1]
                      exact hn E' K.v (by simpa using d3) (by simpa using s1.trans d4) (by rw [← e1,d1];exact c7) (.osl d2))
                    rw [e1] at hwp
                    exact hwp
                  · rw [getO_cons] at h
                    split at h
                    · rename_i e;exact .inl e.symm
                    · rw [getO_cons] at h
                      split at h
                      · rename_i e;subst e;exact .inr ⟨_,q0⟩
                      · cases h
              · split at he <;> cases he
            · cases hed
          · cases hed
def edG (n : Nat) : Option (Nat × Obj × Bool) → Option Objs
  | none => some []
  | some (l,.dead,false) => match Nat.beq l n with
    | true => some [(l,.dead)]
    | false => none
  | _ => none
def decR (τ : TyTab) (κ : ConTab) (dec g : Bool) (i : Nat) (dst : Option Nat) (op : Op) (tm : List (Nat × V)) (os : Objs) (ks : List Nat) (n : Nat) : Option (Option Prop × Rc) := match dec with
  | false => none
  | true => match g with
    | true => match effM τ κ op (bareP op tm) os n with
      | some (ob,v,es) => some (guardOb true (condsP op tm) ob,⟨i,dst,v,es,keysO es ++ (V.ks v ++ ks)⟩)
      | none => none
    | false => some (none,⟨i,dst,.when false (.d .bool false),[],ks⟩)
theorem decR_i {dec g : Bool} {i : Nat} {dst : Option Nat} {op : Op} {tm : List (Nat × V)} {os : Objs} {ks : List Nat} {n : Nat} {ob : Option Prop} {rc : Rc} (h : decR τ κ dec g i dst op tm os ks n = some (ob,rc)) : rc.i = i ∧ rc.dst = dst := by
  unfold decR at h
  split at h
  · cases h
  · split at h
    · split at h
      · cases h;exact ⟨rfl,rfl⟩
      · cases h
    · cases h;exact ⟨rfl,rfl⟩
def rec1 (τ : TyTab) (κ : ConTab) (dec : Bool) (T : List (Nat × List Nat)) (ds : List (Nat × Nat)) (ops : List Oper) (n0 : Nat) (base : List (Nat × V)) (i : Nat) (o : Oper) (cur : St) : Option (Option Prop × Rc) := match o,cur with
  | ⟨dst,op,_,_,_,guard⟩,⟨_,tmps,objs,_,_,_,_,_⟩ => match tmOf T ds i base tmps op.operands.toList with
    | tm => match clos op objs (ksL (mapEv tm op.operands.toList)) with
      | ks => match restr objs ks with
        | os => match guard with
          | none => match effM τ κ op tm os (n0 + i) with
            | some (ob,v,es) => some (ob,⟨i,dst,v,es,keysO es ++ (V.ks v ++ ks)⟩)
            | none => none
          | some (j,want) => match gdOf ops j with
            | none => none
            | some gd => match guardOf want (valOf T ds i base tmps gd) with
              | none => none
              | some g => match effQ τ κ op (bareP op tm) os (n0 + i) with
                | some out => match datO op out with
                  | ⟨ob,v,ed⟩ => match edG (n0 + i) ed with
                    | some es => some (guardOb g (condsP op tm) ob,⟨i,dst,.when g v,es,keysO es ++ (V.ks v ++ ks)⟩)
                    | none => decR τ κ dec g i dst op tm os ks (n0 + i)
                | none => decR τ κ dec g i dst op tm os ks (n0 + i)
def groupE (τ : TyTab) (κ : ConTab) (dec : Bool) (T : List (Nat × List Nat)) (ds : List (Nat × Nat)) (ops : List Oper) (n0 : Nat) (base : List (Nat × V)) : Nat → List Oper → St → Option (List (Option Prop) × List Rc × St)
  | _,[],s => some ([],[],s)
  | i,o :: r,s => match rec1 τ κ dec T ds ops n0 base i o s with
    | none => none
    | some (ob,rc) => match rc.app s with
      | ⟨nt,tmps,objs,nx,df,wr,di,mv⟩ => match groupE τ κ dec T ds ops n0 base (i + 1) r ⟨nt,tmps,objs,nx,df,wr,di,mv⟩ with
        | none => none
        | some (obs,R,s') => some (ob :: obs,rc :: R,s')
def allO : List (Option Prop) → Prop → Prop
  | [],k => k
  | ob :: r,k => andO ob (allO r k)
theorem allO_inv {k : Prop} : ∀ {l : List (Option Prop)},allO l k → (∀ ob ∈ l,okP ob) ∧ k
  | [],h => ⟨fun ob hb => by simp at hb,h⟩
  | ob :: r,h => by
    obtain ⟨h1,h2⟩ := andO_inv h
    obtain ⟨h3,h4⟩ := allO_inv h2
    exact ⟨fun q hq => (List.mem_cons.1 hq).elim (fun e => e ▸ h1) (h3 q),h4⟩
theorem replay_append {p : Nat → Bool} : ∀ {A B : List Rc} {s : St},replay p (A ++ B) s = replay p B (replay p A s)
  | [],_,_ => rfl
  | r :: rs,B,s => by simp only [List.cons_append,replay];exact replay_append
theorem replay_none {p : Nat → Bool} : ∀ {B : List Rc} {s : St},(∀ r ∈ B,p r.i = false) → replay p B s = s
  | [],_,_ => rfl
  | r :: rs,s,h => by
    simp only [replay]
    rw [h r (by simp)]
    exact replay_none fun r' hr' => h r' (List.mem_cons_of_mem _ hr')
theorem replay_congr {p q : Nat → Bool} : ∀ {B : List Rc} {s : St},(∀ r ∈ B,p r.i = q r.i) → replay p B s = replay q B s
  | [],_,_ => rfl
  | r :: rs,s,h => by
    simp only [replay]
    rw [h r (by simp)]
    exact replay_congr fun r' hr' => h r' (List.mem_cons_of_mem _ hr')
theorem rec1_i {dec : Bool} {T : List (Nat × List Nat)} {ds : List (Nat × Nat)} {ops : List Oper} {n0 : Nat} {base : List (Nat × V)} {i : Nat} {o : Oper} {cur : St} {ob : Option Prop} {rc : Rc} (h : rec1 τ κ dec T ds ops n0 base i o cur = some (ob,rc)) : rc.i = i ∧ rc.dst = o.dst := by
  obtain ⟨dst,op,ty,po,af,guard⟩ := o
  cases cur
  simp only [rec1] at h
  split at h
  · split at h
    · cases h;exact ⟨rfl,rfl⟩
    · cases h
  · split at h
    · cases h
    · split at h
      · cases h
      · split at h
        · split at h
          · cases h;exact ⟨rfl,rfl⟩
          · exact decR_i h
        · exact decR_i h
theorem groupE_get {dec : Bool} {T : List (Nat × List Nat)} {ds : List (Nat × Nat)} {ops : List Oper} {n0 : Nat} {base : List (Nat × V)} {s0 : St} : ∀ {l : List Oper} {i : Nat} {cur send : St} {R0 R' : List Rc} {obs : List (Option Prop)},
    groupE τ κ dec T ds ops n0 base i l cur = some (obs,R',send) → (∀ r ∈ R0,r.i < i) → cur = replay (fun _ => true) R0 s0 →
    R'.Pairwise (fun a b => a.i < b.i) ∧ (∀ r ∈ R',i ≤ r.i ∧ r.i < i + l.length) ∧ send = replay (fun _ => true) (R0 ++ R') s0 ∧
      ∀ j o,l[j]? = some o → ∃ ob rc,rec1 τ κ dec T ds ops n0 base (i + j) o (replay (fun k => decide (k < i + j)) (R0 ++ R') s0) = some (ob,rc) ∧ ob ∈ obs ∧ rc ∈ R'
  | [],i,cur,send,R0,R',obs,h,h1,h2 => by
    simp only [groupE,Option.some.injEq,Prod.mk.injEq] at h
    obtain ⟨rfl,rfl,rfl⟩ := h
    exact ⟨.nil,fun r hr => by simp at hr,by simpa using h2,fun j o hj => by simp at hj⟩
  | o :: r,i,cur,send,R0,R',obs,h,h1,h2 => by
    simp only [groupE] at h
    split at h
    · cases h
    · rename_i ob rc hrc
      split at h
      · cases h
      · rename_i obs2 R2 s2 hg
        cases h
        have hi := (rec1_i hrc).1
        have ih := groupE_get (R0 := R0 ++ [rc]) hg (fun r hr => by
          rcases List.mem_append.1 hr with hr | hr
          · exact Nat.lt_succ_of_lt (h1 r hr)
          · simp at hr;subst hr;omega) (by
          rw [replay_append,← h2];rfl)
        obtain ⟨k0,k1,k2,k3⟩ := ih
        have e : R0 ++ [rc] ++ R2 = R0 ++ rc :: R2 := by simp
        rw [e] at k2 k3
        refine ⟨List.pairwise_cons.2 ⟨fun r' hr' => by have := k1 r' hr';omega,k0⟩,fun r' hr' => ?_,k2,fun j o' hj => ?_⟩
        · rcases List.mem_cons.1 hr' with rfl | hr'
          · simp;omega
          · have := k1 r' hr';simp;omega
        · cases j with
          | zero =>
            simp at hj;subst hj
            refine ⟨ob,rc,?_,by simp,by simp⟩
            have : replay (fun k => decide (k < i + 0)) (R0 ++ rc :: R2) s0 = cur := by
              rw [replay_append,replay_none,h2]
              · exact replay_congr fun r' hr' => by simpa using h1 r' hr'
              · intro r' hr'
                rcases List.mem_cons.1 hr' with rfl | hr'
                · simp;omega
                · have := k1 r' hr';simp;omega
            rw [this];exact hrc
          | succ j =>
            obtain ⟨ob',rc',m1,m2,m3⟩ := k3 j o' (by simpa using hj)
            rw [show i + 1 + j = i + (j + 1) from by omega] at m1
            exact ⟨ob',rc',m1,List.mem_cons_of_mem _ m2,List.mem_cons_of_mem _ m3⟩
def disj : Objs → List Nat → Bool
  | [],_ => true
  | (l,_) :: r,ks => match memN l ks with
    | true => false
    | false => disj r ks
theorem disj_mem {l : Nat} {o : Obj} {ks : List Nat} : ∀ {e : Objs},disj e ks = true → getO l e = some o → l ∉ ks
  | [],_,h => by cases h
  | (k,p) :: r,hd,h => by
    simp only [disj] at hd
    split at hd
    · cases hd
    · rename_i hk
      rw [getO_cons] at h
      split at h
      · rename_i e;subst e;exact fun hm => by rw [memN_iff.2 hm] at hk;cases hk
      · exact disj_mem hd h
def pair1 (T : List (Nat × List Nat)) (r : Rc) : List Rc → Bool
  | [] => true
  | q :: l => match memN r.i (getP q.i T) with
    | true => pair1 T r l
    | false => match memN q.i (getP r.i T) with
      | true => pair1 T r l
      | false => match disj r.ed q.ks with
        | true => match disj q.ed r.ks with
          | true => pair1 T r l
          | false => false
        | false => false
def pairs (T : List (Nat × List Nat)) : List Rc → Bool
  | [] => true
  | r :: l => match pair1 T r l with
    | true => pairs T l
    | false => false
def dstsOk (nt : Nat) (ds : List (Nat × Nat)) : List Rc → Bool
  | [] => true
  | ⟨i,some d,_,_,_⟩ :: l => match find d ds with
    | some j => match Nat.beq j i with
      | true => match Nat.blt d nt with
        | true => dstsOk nt ds l
        | false => false
      | false => false
    | none => false
  | _ :: l => dstsOk nt ds l
theorem pair1_mem {T : List (Nat × List Nat)} {r : Rc} : ∀ {l : List Rc},pair1 T r l = true → ∀ q ∈ l,r.i ∈ getP q.i T ∨ q.i ∈ getP r.i T ∨ (disj r.ed q.ks = true ∧ disj q.ed r.ks = true)
  | [],_,q,h => by simp at h
  | q' :: l,h,q,hq => by
    simp only [pair1] at h
    have key : (q = q' → r.i ∈ getP q.i T ∨ q.i ∈ getP r.i T ∨ (disj r.ed q.ks = true ∧ disj q.ed r.ks = true)) → pair1 T r l = true → r.i ∈ getP q.i T ∨ q.i ∈ getP r.i T ∨ (disj r.ed q.ks = true ∧ disj q.ed r.ks = true) :=
      fun h1 h2 => (List.mem_cons.1 hq).elim h1 (pair1_mem h2 q)
    split at h
    · rename_i h1;exact key (fun e => .inl (e ▸ memN_iff.1 h1)) h
    · split at h
      · rename_i h1;exact key (fun e => .inr (.inl (e ▸ memN_iff.1 h1))) h
      · split at h
        · rename_i h1
          split at h
          · rename_i h2;exact key (fun e => .inr (.inr (e ▸ ⟨h1,h2⟩))) h
          · cases h
        · cases h
theorem pairs_mem {T : List (Nat × List Nat)} : ∀ {l : List Rc},pairs T l = true → ∀ r ∈ l,∀ q ∈ l,r = q ∨ r.i ∈ getP q.i T ∨ q.i ∈ getP r.i T ∨ (disj r.ed q.ks = true ∧ disj q.ed r.ks = true)
  | [],_,r,h,_,_ => by simp at h
  | x :: l,h,r,hr,q,hq => by
    simp only [pairs] at h
    split at h
    · rename_i h1
      rcases List.mem_cons.1 hr with hr1 | hr1
      · rcases List.mem_cons.1 hq with hq1 | hq1
        · exact .inl (hr1.trans hq1.symm)
        · rw [hr1];exact .inr (pair1_mem h1 q hq1)
      · rcases List.mem_cons.1 hq with hq1 | hq1
        · rw [hq1]
          rcases pair1_mem h1 r hr1 with h | h | h
          · exact .inr (.inr (.inl h))
          · exact .inr (.inl h)
          · exact .inr (.inr (.inr ⟨h.2,h.1⟩))
        · exact pairs_mem h r hr1 q hq1
    · cases h
theorem dstsOk_mem {nt : Nat} {ds : List (Nat × Nat)} : ∀ {l : List Rc},dstsOk nt ds l = true → ∀ r ∈ l,∀ d,r.dst = some d → find d ds = some r.i ∧ d < nt
  | [],_,r,h,_,_ => by simp at h
  | ⟨i,dst,v,ed,ks⟩ :: l,h,r,hr,d,hd => by
    cases dst with
    | none =>
      simp only [dstsOk] at h
      rcases List.mem_cons.1 hr with rfl | hr
      · cases hd
      · exact dstsOk_mem h r hr d hd
    | some d' =>
      simp only [dstsOk] at h
      split at h
      · rename_i j hj
        split at h
        · rename_i h1
          split at h
          · rename_i h2
            rcases List.mem_cons.1 hr with rfl | hr
            · cases hd
              rw [hj,Nat.eq_of_beq_eq_true h1]
              exact ⟨rfl,Nat.le_of_ble_eq_true h2⟩
            · exact dstsOk_mem h r hr d hd
          · cases h
        · cases h
      · cases h
end Go.Proofs.YtldikbpclaeajaaGreatDoor
namespace Go.Proofs.YtldikbpclaeajaaGreatDoor
open Go
set_option linter.unusedVariables false
variable {P : Program} {τ : TyTab} {κ : ConTab} {φ : Nat → Option FX}
theorem lastO_append {p : Nat → Bool} {l : Nat} : ∀ {A B : List Rc},lastO p l (A ++ B) = (match lastO p l B with | some o => some o | none => lastO p l A)
  | [],B => by simp only [List.nil_append,lastO];split <;> simp_all
  | r :: A,B => by
    simp only [List.cons_append,lastO]
    rw [lastO_append (A := A)]
    cases h : lastO p l B with
    | some o => rfl
    | none => rfl
theorem lastV_append {p : Nat → Bool} {l : Nat} : ∀ {A B : List Rc},lastV p l (A ++ B) = (match lastV p l B with | some o => some o | none => lastV p l A)
  | [],B => by simp only [List.nil_append,lastV];split <;> simp_all
  | r :: A,B => by
    simp only [List.cons_append,lastV]
    rw [lastV_append (A := A)]
    cases h : lastV p l B with
    | some o => rfl
    | none => rfl
theorem lastO_none {p : Nat → Bool} {l : Nat} : ∀ {A : List Rc},(∀ r ∈ A,∀ o,getO l r.ed = some o → p r.i = false) → lastO p l A = none
  | [],_ => rfl
  | r :: A,h => by
    simp only [lastO]
    rw [lastO_none (A := A) (fun r' hr' => h r' (List.mem_cons_of_mem _ hr'))]
    cases hed : getO l r.ed with
    | none => simp
    | some x => simp [h r (by simp) x hed]
theorem lastV_none {p : Nat → Bool} {t : Nat} : ∀ {A : List Rc},(∀ r ∈ A,r.dst = some t → p r.i = false) → lastV p t A = none
  | [],_ => rfl
  | r :: A,h => by
    simp only [lastV]
    rw [lastV_none (A := A) (fun r' hr' => h r' (List.mem_cons_of_mem _ hr'))]
    simp only
    rw [if_neg]
    rintro ⟨h1,h2⟩
    rw [h r (by simp) h2] at h1;cases h1
theorem mem_unionN {n : Nat} : ∀ {a b : List Nat},n ∈ unionN a b ↔ n ∈ a ∨ n ∈ b
  | [],b => by simp [unionN]
  | m :: a,b => by
    simp only [unionN]
    rw [mem_unionN (a := a)]
    simp only [insN]
    split
    · rename_i h
      have := memN_iff.1 h
      constructor
      · rintro (h | h)
        · exact .inl (List.mem_cons_of_mem _ h)
        · exact .inr h
      · rintro (h | h)
        · rcases List.mem_cons.1 h with rfl | h
          · exact .inr this
          · exact .inl h
        · exact .inr h
    · simp only [List.mem_cons]
      constructor
      · rintro (h | h | h)
        · exact .inl (.inr h)
        · exact .inl (.inl h)
        · exact .inr h
      · rintro ((h | h) | h)
        · exact .inr (.inl h)
        · exact .inl h
        · exact .inr (.inr h)
def addI (L : Nat → Bool) (i : Nat) : Nat → Bool := fun j => L j || decide (j = i)
theorem group_op (hτ : TabOk P τ) (hκ : ConsOk P κ) {dec : Bool} {r : Option Nat} {cx : Cx} {ops : Array Oper} {T : List (Nat × List Nat)} (hT : PT ops T) {ds : List (Nat × Nat)} {n0 i : Nat} {o : Oper} {ob : Option Prop} {rc : Rc} {R : List Rc} {s0 : St}
    (hi : ops[i]? = some o) (hrc : rec1 τ κ dec T ds ops.toList n0 s0.tmps i o (replay (fun k => decide (k < i)) R s0) = some (ob,rc)) (ho : okP ob) (hmem : rc ∈ R) (hsort : R.Pairwise fun a b => a.i < b.i) (hp : pairs T R = true) (hd : dstsOk s0.nt ds R = true)
    (hlt : ∀ q ∈ R,q.i < ops.size) (hnx : s0.nx = n0 + ops.size) {L : Nat → Bool} (hL : L i = false) (hdown : ∀ q ∈ R,L q.i = true → ∀ j ∈ getP q.i T,(∃ q' ∈ R,q'.i = j) → L j = true) (hpi : ∀ j ∈ getP i T,(∃ q' ∈ R,q'.i = j) → L j = true)
    {a : Act} {E : Env} (hr : RelE P cx (replay L R s0) a E) (hf : ∀ q ∈ R,L q.i = false → E.loc (n0 + q.i) = none) {Q : Post} {K : Act → World → Prop}
    (hK : ∀ a' E',RelE P cx (replay (addI L i) R s0) a' E' → (∀ q ∈ R,addI L i q.i = false → E'.loc (n0 + q.i) = none) → K a' E'.w) : wpOpIn (fz r) 0 P ops Q i K a E.w := by
  have hii := (rec1_i hrc).1
  have hdst := (rec1_i hrc).2
  have hilt : i < ops.size := (Array.getElem?_eq_some_iff.1 hi).1
  have huniq : ∀ q ∈ R,q.i = i → q = rc := fun q hq e => by
    rcases pairs_mem hp q hq rc hmem with h | h | h | _
    · exact h
    · rw [hii] at h;have := hT.lt i q.i hilt h;omega
    · rw [e] at h;rw [hii] at h;have := hT.lt i i hilt h;omega
    · obtain ⟨A,B,hAB⟩ := List.append_of_mem hmem
      rw [hAB] at hsort hq
      rw [List.pairwise_append] at hsort
      obtain ⟨_,h2,h3⟩ := hsort
      rcases List.mem_append.1 hq with h | h
      · have := h3 q h rc (by simp);omega
      · rcases List.mem_cons.1 h with h | h
        · exact h
        · have := (List.pairwise_cons.1 h2).1 q h;omega
  obtain ⟨A,B,hAB⟩ := List.append_of_mem hmem
  have hA : ∀ q ∈ A,q.i < i := fun q hq => by
    rw [hAB,List.pairwise_append] at hsort
    have := hsort.2.2 q hq rc (by simp);omega
  have hB : ∀ q ∈ B,i < q.i := fun q hq => by
    rw [hAB,List.pairwise_append] at hsort
    have := (List.pairwise_cons.1 hsort.2.1).1 q hq;omega
  have hord : ∀ q ∈ R,∀ l x,getO l q.ed = some x → l ∈ rc.ks → (decide (q.i < i)) = L q.i ∨ q = rc := fun q hq l x hed hl => by
    rcases pairs_mem hp q hq rc hmem with h | h | h | h
    · exact .inr h
    · rw [hii] at h
      have h1 := hT.lt i q.i hilt h
      have h2 := hpi q.i h ⟨q,hq,rfl⟩
      rw [h2];left;simpa using h1
    · rw [hii] at h
      have h1 := hT.lt q.i i (hlt q hq) h
      left
      cases hLq : L q.i with
      | false => simp;omega
      | true => rw [hdown q hq hLq i h ⟨rc,hmem,hii⟩] at hL;cases hL
    · exact absurd hl (disj_mem h.1 hed)
  have hobj : ∀ l ∈ rc.ks,getO l (replay (fun k => decide (k < i)) R s0).objs = getO l (replay L R s0).objs := fun l hl => by
    rw [replay_getO,replay_getO,lastO_congr (p := fun k => decide (k < i)) (q := L)]
    intro q hq x hed
    rcases hord q hq l x hed hl with h | h
    · exact h
    · subst h;rw [hii,hL];simp
  have hval : ∀ t,Rep P E (valOf T ds i s0.tmps (replay (fun k => decide (k < i)) R s0).tmps t) (a.tmps.getD t undef) := fun t => by
    have hrep := hr.rep t
    rw [replay_look] at hrep
    unfold valOf
    split
    · rename_i hn
      rw [lastV_none] at hrep
      · exact hrep
      · intro q hq hqd
        rw [(dstsOk_mem hd q hq t hqd).1] at hn;cases hn
    · rename_i j hj
      have hq : ∀ q ∈ R,q.dst = some t → q.i = j := fun q hq hqd => by
        have := (dstsOk_mem hd q hq t hqd).1
        rw [hj] at this;cases this;rfl
      split
      · rename_i hm
        rw [replay_look,lastV_congr (p := fun k => decide (k < i)) (q := L)]
        · exact hrep
        · intro q hqm hqd
          have e := hq q hqm hqd
          rw [e]
          have hm := memN_iff.1 hm
          rw [hpi j hm ⟨q,hqm,e⟩]
          have := hT.lt i j hilt hm
          simpa using this
      · split
        · rename_i he
          have he := Nat.eq_of_beq_eq_true he
          rw [lastV_none] at hrep
          · exact hrep
          · intro q hqm hqd
            rw [hq q hqm hqd,he];exact hL
        · split
          · rename_i hm
            have hm := memN_iff.1 hm
            rw [lastV_none] at hrep
            · exact hrep
            · intro q hqm hqd
              rw [hq q hqm hqd]
              cases hLj : L j with
              | false => rfl
              | true =>
                have e := hq q hqm hqd
                have := hdown q hqm (by rw [e];exact hLj) i (by rw [e];exact hm) ⟨rc,hmem,hii⟩
                rw [hL] at this;cases this
          · exact .any _
  have hdlt : ∀ d,o.dst = some d → d < a.tmps.size := fun d hdd => by
    have := (dstsOk_mem hd rc hmem d (hdst.trans hdd)).2
    have h1 : a.tmps.size = s0.nt := hr.size.trans (replay_rest (p := L) (R := R) (s := s0)).1
    rw [h1];exact this
  have behind : ∀ E' u, Good P E' (rc.ed ++ (replay L R s0).objs) → Step E (replay L R s0).objs E' (rc.ed ++ (replay L R s0).objs) [] → E.w.drawn ≤ E'.w.drawn → Rep P E' rc.v u →
      (∀ l x,getO l rc.ed = some x → l = n0 + i ∨ ∃ y,getO l (replay L R s0).objs = some y) → (∀ l x,getO l rc.ed = some x → l ∈ rc.ks) → K (a.put o.dst u) E'.w := by
    intro E' u g st hdr hu hkey hks
    obtain ⟨e1,e2,e3,e4⟩ := replay_rest (p := L) (R := R) (s := s0)
    obtain ⟨f1,f2,f3,f4⟩ := replay_rest (p := addI L i) (R := R) (s := s0)
    have hnone : ∀ l,E.loc l = none → l ≠ n0 + i → E'.loc l = none := fun l hl hne => by
      have h1 : getO l (replay L R s0).objs = none := by
        cases h : getO l (replay L R s0).objs with
        | none => rfl
        | some x => obtain ⟨K,hK,_⟩ := hr.good.at_ l x h;rw [hl] at hK;cases hK
      rw [st.dom l ?_]
      · exact hl
      · rw [getO_append]
        cases hed : getO l rc.ed with
        | none => exact h1
        | some x =>
          rcases hkey l x hed with h | ⟨z,hz⟩
          · exact absurd h hne
          · rw [h1] at hz;cases hz
    have hrel : RelE P cx (rc.app (replay L R s0)) (a.put o.dst u) E' := by
      refine ⟨?_,fun l hl => ?_,?_,Nat.le_trans hr.drawn hdr,?_,?_,fun t => ?_⟩
      · have : (rc.app (replay L R s0)).objs = rc.ed ++ (replay L R s0).objs := by generalize replay L R s0 = q;cases q;rfl
        rw [this];exact g
      · have hl : s0.nx ≤ l := by
          have : (rc.app (replay L R s0)).nx = s0.nx := by
            rw [← e2];generalize replay L R s0 = q;cases q;rfl
          rw [this] at hl;exact hl
        exact hnone l (hr.fresh l (by rw [e2];exact hl)) (by omega)
      · have : (rc.app (replay L R s0)).mv = (replay L R s0).mv := by generalize replay L R s0 = q;cases q;rfl
        rw [this]
        have e : (rc.app (replay L R s0)).objs = rc.ed ++ (replay L R s0).objs := by generalize replay L R s0 = q;cases q;rfl
        rw [e];simpa using hr.step.trans st
      · have : (rc.app (replay L R s0)).nt = (replay L R s0).nt := by generalize replay L R s0 = q;cases q;rfl
        rw [this,← hr.size];cases o.dst <;> simp [Act.put]
      · have : (rc.app (replay L R s0)).df = (replay L R s0).df := by generalize replay L R s0 = q;cases q;rfl
        have e : (a.put o.dst u).defers = a.defers := by cases o.dst <;> rfl
        rw [this,e];exact hr.df.ext st.ext
      · rw [app_look,hdst]
        cases hdd : o.dst with
        | none => exact (hr.rep t).mono st.ext
        | some d =>
          rw [put_getD (hdlt d hdd)]
          by_cases e : d = t
          · subst e;rw [if_pos rfl,if_pos rfl];exact hu
          · rw [if_neg (fun h => e (by cases h;rfl)),if_neg e];exact (hr.rep t).mono st.ext
    refine hK _ E' ?_ (fun q hq hqf => ?_)
    · refine Rel.congr hrel (fun t => ?_) (fun l => ?_) ?_ ?_ ?_ (fun l hl => ?_)
      ·
        rw [app_look,replay_look,replay_look]
        by_cases e : rc.dst = some t
        · rw [if_pos e]
          have hq : ∀ q ∈ R,q.dst = some t → q = rc := fun q hq hqd => huniq q hq (by
            have h1 := (dstsOk_mem hd q hq t hqd).1
            have h2 := (dstsOk_mem hd rc hmem t e).1
            exact (Option.some.inj (h1.symm.trans h2)).trans hii)
          have hBn : lastV (addI L i) t B = none := lastV_none fun q hqB hqd => by
            have := hq q (by rw [hAB];simp [hqB]) hqd
            have h1 := hB q hqB
            rw [this,hii] at h1;omega
          have : lastV (addI L i) t R = some rc.v := by
            rw [hAB,lastV_append]
            simp only [lastV,hBn]
            rw [if_pos ⟨by simp [addI,hii],e⟩]
          rw [this]
        · rw [if_neg e]
          rw [lastV_congr (p := addI L i) (q := L)]
          intro q hq hqd
          have : q.i ≠ i := fun h => e (by rw [← huniq q hq h];exact hqd)
          simp [addI,this]
      ·
        rw [app_getO,replay_getO,replay_getO]
        have other : getO l rc.ed = none → lastO (addI L i) l R = lastO L l R := fun hn => lastO_congr fun q hq x hed => by
          have : q.i ≠ i := fun h => by rw [huniq q hq h,hn] at hed;cases hed
          simp [addI,this]
        cases hed : getO l rc.ed with
        | none => rw [other hed]
        | some y =>
          simp only
          have hBn : lastO (addI L i) l B = none := lastO_none fun q hqB x hqe => by
            have hqR : q ∈ R := by rw [hAB];simp [hqB]
            have h1 := hB q hqB
            rcases hord q hqR l x hqe (hks l y hed) with h | h
            · have h2 : L q.i = false := by rw [← h];simp;omega
              simp only [addI,h2,Bool.false_or,decide_eq_false_iff_not];omega
            · rw [h,hii] at h1;omega
          have : lastO (addI L i) l R = some y := by
            rw [hAB,lastO_append]
            simp only [lastO,hBn,hed]
            rw [if_pos (by simp [addI,hii])]
          rw [this]
      · rw [f1,← e1];generalize replay L R s0 = q;cases q;rfl
      · rw [f3,← e3];generalize replay L R s0 = q;cases q;rfl
      · rw [f4,← e4];generalize replay L R s0 = q;cases q;rfl
      · rw [f2] at hl
        exact hnone l (hr.fresh l (by rw [e2];exact hl)) (by omega)
    · simp only [addI,Bool.or_eq_false_iff,decide_eq_false_iff_not] at hqf
      exact hnone _ (hf q hq hqf.1) (by omega)
  obtain ⟨dst,op,ty,po,af,guard⟩ := o
  revert hrc hobj hval
  generalize hcur : replay (fun k => decide (k < i)) R s0 = cur
  obtain ⟨ntc,tmpsc,objsc,nxc,dfc,wrc,dic,mvc⟩ := cur
  intro hobj hval hrc
  simp only [rec1] at hrc
  have hsub : ∀ ks : List Nat,(∀ l ∈ ks,l ∈ rc.ks) → Sub (restr objsc ks) (replay L R s0).objs := fun ks hks l x h => by
    obtain ⟨h1,h2⟩ := restr_get h
    rw [← hobj l (hks l h1)];exact h2
  have hops : ∀ tm : List (Nat × V),tm = tmOf T ds i s0.tmps tmpsc op.operands.toList → ∀ x,Rep P E (evV tm x) (a.eval x) := fun tm e x => by
    cases x with
    | tmp t =>
      show Rep P E (look t tm) _
      rw [e]
      rcases tmOf_look (T := T) (ds := ds) (i := i) (base := s0.tmps) (cur := tmpsc) (t := t) (l := op.operands.toList) with h | h
      · rw [h];exact hval t
      · rw [h];exact .any _
    | const v => exact vconst_rep v
    | global g => exact .any _
    | func f => exact .fn rfl rfl (fun j hj => by simp at hj) (fun j hj => by simp at hj)
  have hfi : E.loc (n0 + i) = none := by have := hf rc hmem (by rw [hii];exact hL);rwa [hii] at this
  unfold wpOpIn
  rw [hi]
  simp only
  split at hrc
  · rw [if_pos (by simp [Region.wanted])]
    split at hrc
    · rename_i ob' v es he
      have hrc1 : ob' = ob := by cases hrc;rfl
      have hrc2 := (Prod.mk.inj (Option.some.inj hrc)).2
      subst hrc1
      have hks : ∀ l ∈ clos op objsc (ksL (mapEv (tmOf T ds i s0.tmps tmpsc op.operands.toList) op.operands.toList)),l ∈ rc.ks := fun l hl => by rw [← hrc2];simp [hl]
      have hrv : rc.v = v := by rw [← hrc2]
      have hre : rc.ed = es := by rw [← hrc2]
      obtain ⟨hdid,hkeys⟩ := effM_did (r := r) (a := a) (o := ⟨dst,op,ty,po,af,none⟩) hτ hκ he (hsub _ hks) ho hr.good hfi (fun x _ => hops _ rfl x)
      refine hdid _ Q (fun E' u k1 k2 kd k3 => ?_)
      refine behind E' u (by rw [hre];exact k1) (by rw [hre];exact k2) kd (by rw [hrv];exact k3) (fun l x h => ?_) (fun l x h => ?_)
      · rw [hre] at h
        rcases hkeys l x h with h | ⟨y,hy⟩
        · exact .inl h
        · exact .inr ⟨y,hsub _ hks l y hy⟩
      · rw [hre] at h
        rw [← hrc2]
        exact List.mem_append_left _ (keysO_mem h)
    · cases hrc
  · rename_i j want
    split at hrc
    · cases hrc
    · rename_i gd hgd
      split at hrc
      · cases hrc
      · rename_i g hg
        have hw := wanted_ok (o := ⟨dst,op,ty,po,af,some (j,want)⟩) rfl hgd hg (hval gd)
        rw [hw]
        have hdec : decR τ κ dec g i dst op (tmOf T ds i s0.tmps tmpsc op.operands.toList) (restr objsc (clos op objsc (ksL (mapEv (tmOf T ds i s0.tmps tmpsc op.operands.toList) op.operands.toList)))) (clos op objsc (ksL (mapEv (tmOf T ds i s0.tmps tmpsc op.operands.toList) op.operands.toList))) (n0 + i) = some (ob, rc) →
            if g = true then Oper.wpIn (fz r) 0 P ⟨dst,op,ty,po,af,some (j,want)⟩ a E.w K Q else (∀ (f : FuncId),Oper.about P E.w a.eval ⟨dst,op,ty,po,af,some (j,want)⟩ = some f → (fz r).fn f) ∧ K (a.put dst undef) E.w := fun hrc => by
          unfold decR at hrc
          split at hrc
          · cases hrc
          · split at hrc
            · rw [if_pos rfl]
              split at hrc
              · rename_i ob' v es he
                have hrc1 : guardOb true (condsP op (tmOf T ds i s0.tmps tmpsc op.operands.toList)) ob' = ob := by cases hrc;rfl
                have hrc2 := (Prod.mk.inj (Option.some.inj hrc)).2
                have hks : ∀ l ∈ clos op objsc (ksL (mapEv (tmOf T ds i s0.tmps tmpsc op.operands.toList) op.operands.toList)),l ∈ rc.ks := fun l hl => by rw [← hrc2];simp [hl]
                have hrv : rc.v = v := by rw [← hrc2]
                have hre : rc.ed = es := by rw [← hrc2]
                have hob := (guardOb_inv (by rw [hrc1];exact ho) rfl).1
                have kc := (guardOb_inv (by rw [hrc1];exact ho) rfl).2
                obtain ⟨hdid,hkeys⟩ := effM_did (r := r) (a := a) (o := ⟨dst,op,ty,po,af,some (j,want)⟩) hτ hκ he (hsub _ hks) hob hr.good hfi (fun x hx => bareP_rep hx (hops _ rfl x) kc)
                refine hdid _ Q (fun E' u k1 k2 kd k3 => ?_)
                refine behind E' u (by rw [hre];exact k1) (by rw [hre];exact k2) kd (by rw [hrv];exact k3) (fun l x h => ?_) (fun l x h => ?_)
                · rw [hre] at h
                  rcases hkeys l x h with h | ⟨y,hy⟩
                  · exact .inl h
                  · exact .inr ⟨y,hsub _ hks l y hy⟩
                · rw [hre] at h
                  rw [← hrc2]
                  exact List.mem_append_left _ (keysO_mem h)
              · cases hrc
            · rw [if_neg (by simp)]
              have hrc2 := (Prod.mk.inj (Option.some.inj hrc)).2
              have hrv : rc.v = .when false (.d .bool false) := by rw [← hrc2]
              have hre : rc.ed = [] := by rw [← hrc2]
              exact ⟨fun _ _ => trivial,behind E undef (by rw [hre];exact hr.good) (by rw [hre];exact .refl _ _ _) (Nat.le_refl _) (by rw [hrv];exact .when (fun e => by cases e) (fun _ => rfl)) (fun l x h => by rw [hre] at h;cases h) (fun l x h => by rw [hre] at h;cases h)⟩
        split at hrc
        · rename_i out he
          generalize hdat : datO op out = out' at hrc
          obtain ⟨ob',v,ed⟩ := out'
          simp only at hrc
          split at hrc
          · rename_i es hed
            have hrc1 : guardOb g (condsP op (tmOf T ds i s0.tmps tmpsc op.operands.toList)) ob' = ob := by cases hrc;rfl
            have hrc2 := (Prod.mk.inj (Option.some.inj hrc)).2
            have hks : ∀ l ∈ clos op objsc (ksL (mapEv (tmOf T ds i s0.tmps tmpsc op.operands.toList) op.operands.toList)),l ∈ rc.ks := fun l hl => by rw [← hrc2];simp [hl]
            have hrv : rc.v = .when g v := by rw [← hrc2]
            have hre : rc.ed = es := by rw [← hrc2]
            have hcase : (ed = none ∧ es = []) ∨ (ed = some (n0 + i,.dead,false) ∧ es = [(n0 + i,.dead)]) := by
              unfold edG at hed
              split at hed
              · cases hed;exact .inl ⟨rfl,rfl⟩
              · split at hed
                · rename_i l hb
                  cases hed
                  rw [Nat.eq_of_beq_eq_true hb]
                  exact .inr ⟨rfl,rfl⟩
                · cases hed
              · cases hed
            have hkey : ∀ l x,getO l rc.ed = some x → l = n0 + i ∨ ∃ y,getO l (replay L R s0).objs = some y := fun l x h => by
              rw [hre] at h
              rcases hcase with ⟨_,rfl⟩ | ⟨_,rfl⟩
              · cases h
              · rw [getO_cons] at h
                split at h
                · rename_i e;exact .inl e.symm
                · cases h
            have hksr : ∀ l x,getO l rc.ed = some x → l ∈ rc.ks := fun l x h => by
              rw [hre] at h
              rw [← hrc2]
              exact List.mem_append_left _ (keysO_mem h)
            cases g with
            | true =>
              rw [if_pos rfl]
              have hob : okP (datO op out).ob := by
                rw [hdat]
                exact (guardOb_inv (by rw [hrc1];exact ho) rfl).1
              have kc := (guardOb_inv (by rw [hrc1];exact ho) rfl).2
              have hd0 := effQ_did (r := r) (a := a) (o := ⟨dst,op,ty,po,af,some (j,want)⟩) hτ hκ he (hsub _ hks) (by rw [← datO_ob op out];exact hob) hr.good hfi (fun x hx => bareP_rep hx (hops _ rfl x) kc)
              have hd1 := datO_did op hd0
              rw [hdat] at hd1
              refine hd1 _ Q (fun E' u k1 k2 kd k3 => ?_)
              refine behind E' u ?_ ?_ kd (by rw [hrv];exact .when (fun _ => k3) (fun e => by cases e)) hkey hksr
              · rw [hre]
                rcases hcase with ⟨rfl,rfl⟩ | ⟨rfl,rfl⟩
                · exact k1
                · exact k1
              · rw [hre]
                rcases hcase with ⟨rfl,rfl⟩ | ⟨rfl,rfl⟩
                · exact k2
                · exact k2
            | false =>
              rw [if_neg (by simp)]
              refine ⟨fun _ _ => trivial,?_⟩
              rcases hcase with ⟨rfl,rfl⟩ | ⟨rfl,rfl⟩
              · exact behind E undef (by rw [hre];exact hr.good) (by rw [hre];exact .refl _ _ _) (Nat.le_refl _) (by rw [hrv];exact .when (fun e => by cases e) (fun _ => rfl)) hkey hksr
              · have ha := hr.good.adopt (n := n0 + i) (K := ⟨0,none,0,0,0⟩) (o := .dead) hfi trivial (fun h => h.elim)
                exact behind (E.setL E.w (n0 + i) ⟨0,none,0,0,0⟩) undef (by rw [hre];exact ha.1) (by rw [hre];exact ha.2 E _ [] (.refl _ _ _) (fun h => h.elim)) (Nat.le_refl _) (by rw [hrv];exact .when (fun e => by cases e) (fun _ => rfl)) hkey hksr
          · exact hdec hrc
        · exact hdec hrc
end Go.Proofs.YtldikbpclaeajaaGreatDoor
namespace Go.Proofs.YtldikbpclaeajaaGreatDoor
open Go
set_option linter.unusedVariables false
variable {P : Program} {τ : TyTab} {κ : ConTab} {φ : Nat → Option FX}
def below : Nat → List Nat → Bool
  | 0,_ => true
  | n + 1,l => match memN n l with
    | true => below n l
    | false => false
theorem below_mem {l : List Nat} : ∀ {n : Nat},below n l = true → ∀ j,j < n → j ∈ l
  | 0,_,j,h => absurd h (by omega)
  | n + 1,h,j,hj => by
    simp only [below] at h
    split at h
    · rename_i h1
      by_cases e : j = n
      · subst e;exact memN_iff.1 h1
      · exact below_mem h j (by omega)
    · cases h
def allFrom (T : List (Nat × List Nat)) (p : Nat) : Nat → Nat → Bool
  | _,0 => true
  | i,c + 1 => match below p (getP i T) with
    | true => allFrom T p (i + 1) c
    | false => false
theorem allFrom_get {T : List (Nat × List Nat)} {p : Nat} : ∀ {c i : Nat},allFrom T p i c = true → ∀ j,i ≤ j → j < i + c → ∀ k,k < p → k ∈ getP j T
  | 0,i,_,j,h1,h2,_,_ => absurd h2 (by omega)
  | c + 1,i,h,j,h1,h2,k,hk => by
    simp only [allFrom] at h
    split at h
    · rename_i hb
      by_cases e : j = i
      · subst e;exact below_mem hb k hk
      · exact allFrom_get h j (by omega) (by omega) k hk
    · cases h
def dsOf : Nat → List Oper → List (Nat × Nat)
  | _,[] => []
  | i,⟨some d,_,_,_,_,_⟩ :: r => (d,i) :: dsOf (i + 1) r
  | i,_ :: r => dsOf (i + 1) r
def splitN {α : Type} : Nat → List α → List α × List α
  | 0,l => ([],l)
  | n + 1,[] => ([],[])
  | n + 1,x :: l => match splitN n l with
    | (a,b) => (x :: a,b)
def groupK (τ : TyTab) (κ : ConTab) (dec : Bool) (T : List (Nat × List Nat)) (ops : List Oper) (n p : Nat) (seg : List Oper) (s : St) (k : St → Prop) : Prop := match s with
  | ⟨nt,tmps,objs,nx,df,wr,di,mv⟩ => match groupE τ κ dec T (dsOf p seg) ops nx tmps p seg ⟨nt,tmps,objs,nx + n,df,wr,di,mv⟩ with
    | none => False
    | some (obs,R,s') => match pairs T R with
      | false => False
      | true => match dstsOk nt (dsOf p seg) R with
        | false => False
        | true => allO obs (k s')
def guardT (ops : List Oper) : List Oper → Option Nat
  | [] => none
  | ⟨_,_,_,_,_,some (j,_)⟩ :: _ => gdOf ops j
  | _ :: r => guardT ops r
def setB (t : Nat) (b : Bool) (s : St) : St := match s with
  | ⟨nt,tmps,objs,nx,df,wr,di,mv⟩ => ⟨nt,(t,.d .bool b) :: tmps,objs,nx,df,t :: wr,di,mv⟩
def groupW (τ : TyTab) (κ : ConTab) (T : List (Nat × List Nat)) (ops : List Oper) (n p : Nat) (seg : List Oper) (s : St) (k : St → Prop) : Prop := match s with
  | ⟨nt,tmps,objs,nx,df,wr,di,mv⟩ => match groupE τ κ false T (dsOf p seg) ops nx tmps p seg ⟨nt,tmps,objs,nx + n,df,wr,di,mv⟩ with
    | some _ => groupK τ κ false T ops n p seg ⟨nt,tmps,objs,nx,df,wr,di,mv⟩ k
    | none => match guardT ops seg with
      | none => False
      | some t => match look t tmps with
        | .d .bool b => cond b (groupK τ κ true T ops n p seg (setB t true ⟨nt,tmps,objs,nx,df,wr,di,mv⟩) k) (groupK τ κ true T ops n p seg (setB t false ⟨nt,tmps,objs,nx,df,wr,di,mv⟩) k)
        | _ => False
theorem setB_ok {cx : Cx} {s : St} {t : Nat} {b : Bool} (hv : look t s.tmps = .d .bool b) {a : Act} {w : World} (r : Rel P cx s a w) : Inv s (setB t b s) ∧ Rel P cx (setB t b s) a w := by
  obtain ⟨nt,tmps,objs,nx,df,wr,di,mv⟩ := s
  obtain ⟨E,rfl,r1⟩ := r
  have hl : ∀ u,look u ((t,V.d .bool b) :: tmps) = look u tmps := fun u => by
    rw [look_cons]
    split
    · rename_i e;rw [← e];exact hv.symm
    · rfl
  refine ⟨⟨rfl,Nat.le_refl _,fun _ h => List.mem_cons_of_mem _ h,fun _ h => h,fun _ h => h,fun u hu => hl u,fun _ _ => rfl,fun _ => rfl⟩,E,rfl,r1.good,r1.fresh,r1.step,r1.drawn,r1.size,r1.df,fun u => ?_⟩
  show Rep P E (look u ((t,V.d .bool b) :: tmps)) _
  rw [hl];exact r1.rep u
theorem groupW_inv {cx : Cx} {T : List (Nat × List Nat)} {ops : List Oper} {n p : Nat} {seg : List Oper} {s : St} {k : St → Prop} (h : groupW τ κ T ops n p seg s k) {a : Act} {w : World} (r : Rel P cx s a w) :
    ∃ dec s1,Inv s s1 ∧ Rel P cx s1 a w ∧ groupK τ κ dec T ops n p seg s1 k := by
  obtain ⟨nt,tmps,objs,nx,df,wr,di,mv⟩ := s
  unfold groupW at h
  simp only at h
  split at h
  · exact ⟨false,_,.refl _,r,h⟩
  · split at h
    · exact h.elim
    · rename_i t _
      split at h
      · rename_i b hv
        obtain ⟨h1,h2⟩ := setB_ok (P := P) (cx := cx) (s := ⟨nt,tmps,objs,nx,df,wr,di,mv⟩) hv r
        cases b with
        | true => exact ⟨true,_,h1,h2,h⟩
        | false => exact ⟨true,_,h1,h2,h⟩
      · exact h.elim
def drawB (τ : TyTab) (κ : ConTab) (X : XT) (T : List (Nat × List Nat)) (ops : List Oper) (n : Nat) : List Nat → Nat → List Oper → St → (St → Prop) → Prop
  | [],p,rest,s,k => match rest with
    | [] => k s
    | _ => False
  | q :: qs,p,rest,s,k => match allFrom T q q (n - q) with
    | false => False
    | true => match Nat.beq q (p + 1) with
      | true => match rest with
        | [] => False
        | o :: r => opsW τ κ X ops [o] [] s (fun s' => drawB τ κ X T ops n qs q r s' k)
      | false => match splitN (q - p) rest with
        | (seg,r) => match Nat.beq (p + seg.length) q with
          | false => False
          | true => groupW τ κ T ops n p seg s (fun s' => drawB τ κ X T ops n qs q r s' k)
theorem splitN_eq {α : Type} : ∀ {n : Nat} {l : List α},(splitN n l).1 = l.take n ∧ (splitN n l).2 = l.drop n
  | 0,l => ⟨rfl,rfl⟩
  | n + 1,[] => ⟨rfl,rfl⟩
  | n + 1,x :: l => by
    have := splitN_eq (n := n) (l := l)
    simp only [splitN,List.take_succ_cons,List.drop_succ_cons]
    exact ⟨by rw [this.1],this.2⟩
theorem Inv.app (r : Rc) (s : St) : Inv s (r.app s) := by
  obtain ⟨i,dst,v,ed,ks⟩ := r
  obtain ⟨nt,tmps,objs,nx,df,wr,di,mv⟩ := s
  refine ⟨rfl,Nat.le_refl _,fun t ht => ?_,fun l hl => ?_,fun _ h => h,fun t ht => ?_,fun l hl => ?_,fun _ => rfl⟩
  · cases dst with
    | none => exact ht
    | some d => exact List.mem_cons_of_mem _ ht
  · exact List.mem_append_right _ hl
  · cases dst with
    | none => rfl
    | some d =>
      have ht : t ∉ d :: wr := ht
      simp only [List.mem_cons,not_or] at ht
      show look t ((d,v) :: tmps) = _
      rw [look_cons,if_neg (Ne.symm ht.1)]
  · have hl : l ∉ keysO ed ++ di := hl
    simp only [List.mem_append,not_or] at hl
    show getO l (ed ++ objs) = _
    rw [getO_append]
    cases h : getO l ed with
    | none => rfl
    | some o => exact absurd (keysO_mem h) hl.1
theorem Inv.replay (p : Nat → Bool) : ∀ (R : List Rc) (s : St),Inv s (replay p R s)
  | [],s => .refl s
  | r :: rs,s => by
    simp only [YtldikbpclaeajaaGreatDoor.replay]
    split
    · exact (Inv.app r s).trans (Inv.replay p rs _)
    · exact Inv.replay p rs s
def Bd (n p : Nat) (listed : Array Bool) : Prop := listed.size = n ∧ ∀ j,j < n → listed.getD j false = decide (j < p)
def cnt (n : Nat) (listed : Array Bool) : Nat := ((List.range n).filter fun j => !listed.getD j false).length
theorem filt_lt {p p' : Nat → Bool} {i : Nat} (hi : p i = true) (hi' : p' i = false) (hp : ∀ j,p' j = true → p j = true) : ∀ {l : List Nat},i ∈ l → (l.filter p').length < (l.filter p).length := by
  have hle : ∀ l : List Nat,(l.filter p').length ≤ (l.filter p).length := by
    intro l
    induction l with
    | nil => simp
    | cons x l ih =>
      simp only [List.filter_cons]
      split
      · rename_i h;rw [if_pos (hp x h)];simpa using ih
      · split
        · simp;omega
        · exact ih
  intro l h
  induction l with
  | nil => cases h
  | cons x l ih =>
    simp only [List.filter_cons]
    rcases List.mem_cons.1 h with rfl | h
    · rw [if_pos hi,if_neg (by rw [hi'];simp)]
      have := hle l
      simp;omega
    · have := ih h
      split
      · rename_i h';rw [if_pos (hp x h')];simpa using this
      · split
        · simp;omega
        · exact this
theorem set_getD {listed : Array Bool} {i j : Nat} (hi : i < listed.size) : (listed.setIfInBounds i true).getD j false = (listed.getD j false || decide (j = i)) := by
  by_cases e : j = i
  · subst e
    simp [Array.getD_eq_getD_getElem?,hi]
  · rw [getD_set_ne false (Ne.symm e)];simp [e]
theorem cnt_set {n i : Nat} {listed : Array Bool} (hs : listed.size = n) (hi : i < n) (hl : listed.getD i false = false) : cnt n (listed.setIfInBounds i true) < cnt n listed := by
  refine filt_lt (i := i) (by simp only [hl];rfl) (by rw [set_getD (by omega)];simp) (fun j hj => ?_) (List.mem_range.2 hi)
  rw [set_getD (by omega)] at hj
  cases h : listed.getD j false with
  | false => rfl
  | true => rw [h] at hj;cases hj
def Down (T : List (Nat × List Nat)) (n : Nat) (listed : Array Bool) : Prop := ∀ i,i < n → listed.getD i false = true → ∀ j ∈ getP i T,listed.getD j false = true
theorem ready_pred {ops : Array Oper} {T : List (Nat × List Nat)} (hT : PT ops T) {listed : Array Bool} (hd : Down T ops.size listed) {i : Nat} (hi : i ∈ Region.ready .any ops listed) : i < ops.size ∧ listed.getD i true = false ∧ ∀ j ∈ getP i T,listed.getD j false = true := by
  obtain ⟨h1,o,h2,h3⟩ := mem_ready.1 hi
  have hlt : i < ops.size := (Array.getElem?_eq_some_iff.1 h2).1
  refine ⟨hlt,h1,fun j hj => ?_⟩
  obtain ⟨e,he,hb,hor⟩ := hT.back i o j h2 hj
  have hon := h3 e he hb
  rcases hor with h | h
  · rw [← h];exact hon
  · exact hd e.on (Nat.lt_trans (hT.lt i e.on hlt (hT.edge i o e h2 he hb)) hlt) hon j h
theorem getD_flag {listed : Array Bool} {n j : Nat} (hs : listed.size = n) (hj : j < n) : listed.getD j true = listed.getD j false := by
  rw [Array.getD_eq_getD_getElem?,Array.getD_eq_getD_getElem?,Array.getElem?_eq_getElem (by omega)];rfl
theorem ready_ex {ops : Array Oper} {T : List (Nat × List Nat)} (hT : PT ops T) {listed : Array Bool} (hs : listed.size = ops.size) : ∀ i,i < ops.size → listed.getD i false = false → Region.ready .any ops listed ≠ [] := by
  intro i
  induction i using Nat.strongRecOn with
  | _ i ih =>
    intro hi hl hn
    have : i ∈ Region.ready .any ops listed := mem_ready.2 ⟨by rw [getD_flag hs hi];exact hl,ops[i],Array.getElem?_eq_getElem hi,fun e he hb => by
      have hlt := hT.lt i e.on hi (hT.edge i ops[i] e (Array.getElem?_eq_getElem hi) he hb)
      cases h : listed.getD e.on false with
      | true => rfl
      | false => exact absurd hn (ih e.on hlt (by omega) h)⟩
    rw [hn] at this
    cases this
theorem bd_down {ops : Array Oper} {T : List (Nat × List Nat)} (hT : PT ops T) {p : Nat} {listed : Array Bool} (h : Bd ops.size p listed) : Down T ops.size listed := fun i hi hl j hj => by
  have h1 := h.2 i hi
  rw [hl] at h1
  have h2 := hT.lt i j hi hj
  have h3 : i < p := by simpa using h1.symm
  rw [h.2 j (by omega)]
  simp;omega
theorem down_set {ops : Array Oper} {T : List (Nat × List Nat)} (hT : PT ops T) {listed : Array Bool} (hs : listed.size = ops.size) (hd : Down T ops.size listed) {i : Nat} (hi : i ∈ Region.ready .any ops listed) : Down T ops.size (listed.setIfInBounds i true) := fun j hj hl k hk => by
  obtain ⟨h1,h2,h3⟩ := ready_pred hT hd hi
  rw [set_getD (by omega)] at hl ⊢
  rcases Bool.or_eq_true_iff.1 hl with h | h
  · rw [hd j hj h k hk];rfl
  · have : j = i := by simpa using h
    subst this
    rw [h3 k hk];rfl
end Go.Proofs.YtldikbpclaeajaaGreatDoor
namespace Go.Proofs.YtldikbpclaeajaaGreatDoor
open Go
set_option linter.unusedVariables false
variable {P : Program} {τ : TyTab} {κ : ConTab} {φ : Nat → Option FX}
theorem wpIn_Q {F : Fence} {n : Nat} {o : Oper} {a : Act} {w : World} {K : Act → World → Prop} {Q Q' : Post} (h : ∀ c a w,Q' (.panic c) a w → Q (.panic c) a w) (h2 : LetsOut Q' → LetsOut Q) (hh : o.wpIn F n P a w K Q') : o.wpIn F n P a w K Q := by
  unfold Oper.wpIn at *
  refine ⟨hh.1,?_⟩
  have hh := hh.2
  generalize (o.semAt F.round a.eval).run P w = r at *
  cases r with
  | ok x w' =>
    cases x <;> simp only [Oper.uponIn] at hh ⊢ <;>
      first
        | exact hh
        | exact ⟨hh.1,CallsIn.mono hh.2 (fun e w'' he => by cases e <;> first | exact h _ _ _ he | exact h2 he | exact he)⟩
        | exact ⟨hh.1,RowsIn.mono hh.2 (fun _ _ he => he)⟩
        | exact ⟨hh.1,RoundIn.mono hh.2 (fun e w'' he => by cases e <;> first | exact h _ _ _ he | exact h2 he | exact he)⟩
  | halt x w' => cases x <;> simp only [Oper.uponIn] at hh ⊢ <;> first | exact hh | exact h _ _ _ hh
theorem wpOpIn_Q {F : Fence} {n : Nat} {ops : Array Oper} {i : Nat} {a : Act} {w : World} {K : Act → World → Prop} {Q Q' : Post} (h : ∀ c a w,Q' (.panic c) a w → Q (.panic c) a w) (h2 : LetsOut Q' → LetsOut Q) (hh : wpOpIn F n P ops Q' i K a w) : wpOpIn F n P ops Q i K a w := by
  unfold wpOpIn at *
  split
  · rename_i ho;rw [ho] at hh;exact hh
  · rename_i o ho
    rw [ho] at hh
    simp only at hh
    split
    · rename_i hw;rw [if_pos hw] at hh;exact wpIn_Q h h2 hh
    · rename_i hw;rw [if_neg hw] at hh;exact hh
theorem draw_go (hτ : TabOk P τ) (hκ : ConsOk P κ) {r : Option Nat} {cx : Cx} {X : XT} (hX : XOk P r cx X) {ops : Array Oper} {T : List (Nat × List Nat)} (hT : PT ops T) {Q : Post} :
    ∀ (qs : List Nat) (p : Nat) (rest : List Oper) (s : St) (k : St → Prop),rest = ops.toList.drop p → p ≤ ops.size → (∀ i,p ≤ i → i < ops.size → ∀ j,j < p → j ∈ getP i T) → drawB τ κ X T ops.toList ops.size qs p rest s k →
      ∀ (fuel : Nat) (listed : Array Bool) (a : Act) (w : World),Bd ops.size p listed → cnt ops.size listed ≤ fuel → Rel P cx s a w → (∀ s' a' w',Inv s s' → k s' → Rel P cx s' a' w' → Q .normal a' w') → wpAnyIn (fz r) 0 P .any ops Q fuel listed a w
  | [],p,rest,s,k,hrest,hps,hbd,h,fuel,listed,a,w,hB,hc,hr,hk => by
    simp only [drawB] at h
    split at h
    · have hp : p = ops.size := by
        have : (ops.toList.drop p).length = 0 := by rw [← hrest];rfl
        simp at this;omega
      have hrd : Region.ready .any ops listed = [] := by
        refine List.eq_nil_iff_forall_not_mem.2 fun i hi => ?_
        obtain ⟨h1,o,h2,_⟩ := mem_ready.1 hi
        have hlt : i < ops.size := (Array.getElem?_eq_some_iff.1 h2).1
        rw [getD_flag hB.1 hlt,hB.2 i hlt,hp] at h1
        simp at h1;omega
      have hq := hk s a w (.refl s) h hr
      cases fuel with
      | zero => exact ⟨hrd,hq⟩
      | succ f => exact ⟨fun _ => hq,fun i hi => by rw [hrd] at hi;cases hi⟩
    · exact h.elim
  | q :: qs,p,rest,s,k,hrest,hps,hbd,h,fuel,listed,a,w,hB,hc,hr,hk => by
    simp only [drawB] at h
    split at h
    · exact h.elim
    · rename_i hall
      have hbq : q ≤ ops.size → ∀ i,q ≤ i → i < ops.size → ∀ j,j < q → j ∈ getP i T := fun hq i h1 h2 j hj => allFrom_get hall i h1 (by omega) j hj
      split at h
      ·
        rename_i hqp
        have hqp := Nat.eq_of_beq_eq_true hqp
        split at h
        · exact h.elim
        · rename_i o rst
          have hop : ops[p]? = some o := by
            have : ops.toList[p]? = some o := by
              have := List.getElem?_drop (xs := ops.toList) (i := p) (j := 0)
              rw [← hrest] at this
              simpa using this.symm
            simpa using this
          have hlt : p < ops.size := (Array.getElem?_eq_some_iff.1 hop).1
          have hrst : rst = ops.toList.drop q := by
            have := congrArg (List.drop 1) hrest
            rw [hqp];simpa [List.drop_drop] using this
          have hun : listed.getD p false = false := by rw [hB.2 p hlt];simp
          have hB' : Bd ops.size q (listed.setIfInBounds p true) := ⟨by simpa using hB.1,fun j hj => by
            rw [set_getD (by rw [hB.1];exact hlt),hB.2 j hj,hqp]
            by_cases e : j = p
            · subst e;simp
            · have : (j < p + 1) = (j < p) := by apply propext;omega
              simp [e,this]⟩
          have hcs := cnt_set hB.1 hlt hun
          cases fuel with
          | zero => omega
          | succ f =>
            refine ⟨fun hn => absurd hn (ready_ex hT hB.1 p hlt hun),fun i hi => ?_⟩
            obtain ⟨h1,h2,h3⟩ := ready_pred hT (bd_down hT hB) hi
            have hip : i = p := by
              rw [getD_flag hB.1 h1,hB.2 i h1] at h2
              have h2 : p ≤ i := by simpa using h2
              by_cases e : i = p
              · exact e
              · have := h3 p (hbq (by omega) i (by omega) h1 p (by omega))
                rw [hun] at this;cases this
            subst hip
            have := opsW_ok (Q := fun e a w => match e with | .normal => wpAnyIn (fz r) 0 P .any ops Q f (listed.setIfInBounds i true) a w | e => Q e a w) hτ hκ hX (ops := ops) (l := [o]) (is := [i]) (by simp [hop]) h hr
              (fun s' a' w' hi' hq' hr' => draw_go hτ hκ hX hT qs q rst s' k hrst (by omega) (hbq (by omega)) hq' f _ a' w' hB' (by omega) hr' (fun s'' a'' w'' hj hq'' hr'' => hk s'' a'' w'' (hi'.trans hj) hq'' hr''))
            rw [wpOpsIn_cons] at this
            exact wpOpIn_Q (fun c a w h => h) (fun ⟨a,w,h⟩ => ⟨a,w,h⟩) this
      ·
        generalize hsp : splitN (q - p) rest = sr at h
        obtain ⟨seg,rst⟩ := sr
        simp only at h
        have hseg : seg = rest.take (q - p) := by rw [← (splitN_eq (n := q - p) (l := rest)).1,hsp]
        have hrst : rst = rest.drop (q - p) := by rw [← (splitN_eq (n := q - p) (l := rest)).2,hsp]
        split at h
        · exact h.elim
        · rename_i hlen
          have hlen := Nat.eq_of_beq_eq_true hlen
          obtain ⟨dec,s1,hi1,hr,h⟩ := groupW_inv h hr
          replace hk : ∀ s' a' w',Inv s1 s' → k s' → Rel P cx s' a' w' → Q .normal a' w' := fun s' a' w' hi => hk s' a' w' (hi1.trans hi)
          obtain ⟨nt,tmps,objs,nx,df,wr,di,mv⟩ := s1
          unfold groupK at h
          simp only at h
          split at h
          · exact h.elim
          · rename_i obs R s' hg
            split at h
            · exact h.elim
            · rename_i hpairs
              split at h
              · exact h.elim
              · rename_i hds
                obtain ⟨hobs,hrec⟩ := allO_inv h
                obtain ⟨k0,k1,k2,k3⟩ := groupE_get (R0 := []) (s0 := ⟨nt,tmps,objs,nx + ops.size,df,wr,di,mv⟩) hg (fun _ h => by simp at h) rfl
                simp only [List.nil_append] at k2 k3
                have hqs : q ≤ ops.size := by
                  have : seg.length ≤ rest.length := by rw [hseg,List.length_take];exact Nat.min_le_right _ _
                  have h2 : rest.length = ops.size - p := by rw [hrest,List.length_drop,Array.length_toList]
                  omega
                have hsget : ∀ j o,seg[j]? = some o → ops[p + j]? = some o := fun j o hj => by
                  rw [hseg,List.getElem?_take] at hj
                  split at hj
                  · rw [hrest,List.getElem?_drop] at hj;simpa using hj
                  · cases hj
                have hrst' : rst = ops.toList.drop q := by
                  rw [hrst,hrest,List.drop_drop]
                  congr 1
                  omega
                have hRlt : ∀ r ∈ R,r.i < ops.size := fun r hr => by have := k1 r hr;omega
                have hinv0 : Inv ⟨nt,tmps,objs,nx,df,wr,di,mv⟩ ⟨nt,tmps,objs,nx + ops.size,df,wr,di,mv⟩ := ⟨rfl,by simp,fun _ h => h,fun _ h => h,fun _ h => h,fun _ _ => rfl,fun _ _ => rfl,fun _ => rfl⟩
                have key : ∀ (fuel : Nat) (listed : Array Bool) (a : Act) (E : Env), listed.size = ops.size → Down T ops.size listed → (∀ j, j < p → listed.getD j false = true) → (∀ j, j < ops.size → q ≤ j → listed.getD j false = false) → cnt ops.size listed ≤ fuel →
                    RelE P cx (replay (fun j => listed.getD j false) R ⟨nt,tmps,objs,nx + ops.size,df,wr,di,mv⟩) a E → (∀ r ∈ R,listed.getD r.i false = false → E.loc (nx + r.i) = none) → wpAnyIn (fz r) 0 P .any ops Q fuel listed a E.w := by
                  intro fuel
                  induction fuel with
                  | zero =>
                    intro listed a E hs hd hlo hhi hc hr hf
                    have hall' : ∀ j,j < ops.size → listed.getD j false = true := fun j hj => by
                      cases hl : listed.getD j false with
                      | true => rfl
                      | false =>
                        have hm : j ∈ (List.range ops.size).filter fun j => !listed.getD j false := List.mem_filter.2 ⟨List.mem_range.2 hj,by simp only [hl];rfl⟩
                        rw [List.eq_nil_of_length_eq_zero (Nat.le_zero.1 hc)] at hm
                        cases hm
                    have hBq : Bd ops.size q listed := ⟨hs,fun j hj => by
                      rw [hall' j hj]
                      by_cases e : j < q
                      · simp [e]
                      · have := hhi j hj (by omega);rw [hall' j hj] at this;cases this⟩
                    refine draw_go hτ hκ hX hT qs q rst s' k hrst' hqs (hbq hqs) hrec 0 listed a E.w hBq hc ?_ (fun s'' a'' w'' hj hq'' hr'' => hk s'' a'' w'' ((hinv0.trans (by rw [k2];exact Inv.replay _ _ _)).trans hj) hq'' hr'')
                    refine ⟨E,rfl,?_⟩
                    rw [k2,replay_congr (p := fun _ => true) (q := fun j => listed.getD j false)]
                    · exact hr
                    · intro r hr;exact (hall' r.i (hRlt r hr)).symm
                  | succ f ih =>
                    intro listed a E hs hd hlo hhi hc hr hf
                    by_cases hfull : ∀ j,p ≤ j → j < q → listed.getD j false = true
                    · have hBq : Bd ops.size q listed := ⟨hs,fun j hj => by
                        by_cases e : j < q
                        · by_cases e2 : j < p
                          · rw [hlo j e2];simp [e]
                          · rw [hfull j (by omega) e];simp [e]
                        · rw [hhi j hj (by omega)];simp [e]⟩
                      refine draw_go hτ hκ hX hT qs q rst s' k hrst' hqs (hbq hqs) hrec (f + 1) listed a E.w hBq hc ?_ (fun s'' a'' w'' hj hq'' hr'' => hk s'' a'' w'' ((hinv0.trans (by rw [k2];exact Inv.replay _ _ _)).trans hj) hq'' hr'')
                      refine ⟨E,rfl,?_⟩
                      rw [k2,replay_congr (p := fun _ => true) (q := fun j => listed.getD j false)]
                      · exact hr
                      · intro r hr
                        have := k1 r hr
                        exact (hfull r.i this.1 (by omega)).symm
                    · have : ∃ j,p ≤ j ∧ j < q ∧ listed.getD j false = false := by
                        refine Classical.byContradiction fun hn => hfull fun j h1 h2 => ?_
                        cases hl : listed.getD j false with
                        | true => rfl
                        | false => exact absurd ⟨j,h1,h2,hl⟩ hn
                      obtain ⟨j,hj1,hj2,hj3⟩ := this
                      refine ⟨fun hn => absurd hn (ready_ex hT hs j (by omega) hj3),fun i hi => ?_⟩
                      obtain ⟨h1,h2,h3⟩ := ready_pred hT hd hi
                      rw [getD_flag hs h1] at h2
                      have hip : p ≤ i := by
                        refine Nat.le_of_not_lt fun hlt => ?_
                        rw [hlo i hlt] at h2;cases h2
                      have hiq : i < q := by
                        refine Nat.lt_of_not_le fun hle => ?_
                        have := h3 j (hbq hqs i hle h1 j hj2)
                        rw [hj3] at this;cases this
                      obtain ⟨o,ho⟩ : ∃ o,seg[i - p]? = some o := ⟨seg[i - p],List.getElem?_eq_getElem (by omega)⟩
                      have hio := hsget _ _ ho
                      rw [show p + (i - p) = i from by omega] at hio
                      obtain ⟨ob,rc,m1,m2,m3⟩ := k3 _ _ ho
                      rw [show p + (i - p) = i from by omega] at m1
                      refine group_op (L := fun j => listed.getD j false) (n0 := nx) hτ hκ hT hio m1 (hobs ob m2) m3 k0 hpairs hds hRlt rfl h2 (fun q hq hl j hj _ => hd q.i (hRlt q hq) hl j hj) (fun j hj _ => h3 j hj) hr hf (fun a' E' hr' hf' => ?_)
                      have hset : ∀ j,(listed.setIfInBounds i true).getD j false = addI (fun j => listed.getD j false) i j := fun j => by rw [set_getD (by omega)];rfl
                      refine ih (listed.setIfInBounds i true) a' E' (by simpa using hs) (down_set hT hs hd hi) (fun j hj => ?_) (fun j hj hqj => ?_) ?_ ?_ (fun q hq hl => hf' q hq (by rw [← hset];exact hl))
                      · rw [set_getD (by omega),hlo j hj];rfl
                      · rw [set_getD (by omega),hhi j hj hqj];simp;omega
                      · have := cnt_set hs h1 h2;omega
                      · rw [replay_congr (p := fun j => (listed.setIfInBounds i true).getD j false) (q := addI (fun j => listed.getD j false) i)]
                        · exact hr'
                        · intro r _;exact hset r.i
                obtain ⟨E,rfl,r1⟩ := hr
                refine key fuel listed a E hB.1 (bd_down hT hB) (fun j hj => by rw [hB.2 j (by omega)];simpa using hj) (fun j hj hqj => ?_) hc ?_ (fun r hr _ => r1.fresh _ (by show nx ≤ nx + r.i;omega))
                · have hqp : p ≤ q := by omega
                  rw [hB.2 j hj];simp;omega
                · rw [replay_none]
                  · exact ⟨r1.good,fun l hl => r1.fresh l (by have : nx + ops.size ≤ l := hl;show nx ≤ l;omega),r1.step,r1.drawn,r1.size,r1.df,r1.rep⟩
                  · intro r hr
                    have := k1 r hr
                    rw [hB.2 r.i (hRlt r hr)];simp;omega
def prefL (l : List Nat) : Nat → Nat → Nat
  | 0,k => k
  | f + 1,k => match memN k l with
    | true => prefL l f (k + 1)
    | false => k
def cutsG (T : List (Nat × List Nat)) : Nat → Nat → Nat → List Nat → List Nat
  | 0,_,_,acc => acc
  | i + 1,n,m,acc => match prefL (getP i T) n 0 with
    | k => match Nat.ble k m with
      | true => match Nat.ble i k with
        | true => match i with
          | 0 => acc
          | j + 1 => cutsG T i n k (i :: acc)
        | false => cutsG T i n k acc
      | false => match Nat.ble i m with
        | true => match i with
          | 0 => acc
          | j + 1 => cutsG T i n m (i :: acc)
        | false => cutsG T i n m acc
def drawW (τ : TyTab) (κ : ConTab) (X : XT) (l : List Oper) (s : St) (k : St → Prop) : Prop := match l.length with
  | n => match predT 0 l [] with
    | T => match predOk T 0 l with
      | false => False
      | true => match cutsG T n n n [n] with
        | qs => drawB τ κ X T l n qs 0 l s k
theorem Rel.drawn {cx : Cx} {s : St} {a : Act} {w : World} (h : Rel P cx s a w) : Rel P cx s a { w with drawn := w.drawn + 1 } := by
  obtain ⟨E,rfl,r⟩ := h
  obtain ⟨g,st⟩ := r.good.at (w := { E.w with drawn := E.w.drawn + 1 }) rfl (Nat.le_succ _) rfl rfl rfl
  exact ⟨E.at _,rfl,g,r.fresh,by simpa using r.step.trans st,Nat.le_trans r.drawn (Nat.le_succ _),r.size,r.df.ext st.ext,fun t => (r.rep t).mono st.ext⟩
theorem drawW_ok (hτ : TabOk P τ) (hκ : ConsOk P κ) (hm : P.follows .mixedOrders = true) {r : Option Nat} {cx : Cx} {X : XT} (hX : XOk P r cx X) {id : Nat} {ops : Array Oper} {s : St} {k : St → Prop} {R : Post} (h : drawW τ κ X ops.toList s k) {a : Act} {w : World} (hr : Rel P cx s a w)
    (hk : ∀ s' a' w',Inv s s' → k s' → Rel P cx s' a' w' → R .normal a' w') : (Code.region id ops true).wpIn (fz r) 0 P R a w := by
  refine wpIn_region_any hm ?_
  unfold drawW at h
  simp only at h
  split at h
  · exact h.elim
  · rename_i hp
    refine draw_go hτ hκ hX (PT.of hp) _ 0 _ s k rfl (Nat.zero_le _) (fun i _ _ j hj => absurd hj (by omega)) (by simpa using h) _ _ a _ ⟨by simp,fun j hj => ?_⟩ ?_ hr.drawn hk
    · simp [Array.getD_eq_getD_getElem?,hj]
    · refine Nat.le_trans (List.length_filter_le _ _) (by simp)
theorem draw_dok (hτ : TabOk P τ) (hκ : ConsOk P κ) (hm : P.follows .mixedOrders = true) : DOk P (drawW τ κ) := fun X id ops s k cx r R hX h a w hr hk => drawW_ok hτ hκ hm hX h hr hk
abbrev walk (τ : TyTab) (κ : ConTab) (φ : Nat → Option FX) : RunT := runN τ κ φ (drawW τ κ) 8
theorem walk_ok (hτ : TabOk P τ) (hκ : ConsOk P κ) (hφ : ∀ g fi,φ g = some fi → fi.Ok P g) (hm : P.follows .mixedOrders = true) : RunOk P (walk τ κ φ) := runN_ok hτ hκ hφ (draw_dok hτ hκ hm) 8
end Go.Proofs.YtldikbpclaeajaaGreatDoor
namespace Go.Proofs.YtldikbpclaeajaaGreatDoor
open Go
set_option linter.unusedVariables false
variable {P : Program} {τ : TyTab} {κ : ConTab} {φ : Nat → Option FX}
def findL {α : Type} (n : Nat) : List (Nat × α) → Option α
  | [] => none
  | (m,x) :: r => match Nat.beq m n with
    | true => some x
    | false => findL n r
def findC (n : Nat) : List (Nat × CX) → Option CX
  | [] => none
  | (m,x) :: r => match Nat.beq m n with
    | true => some x
    | false => findC n r
theorem findL_mem {α : Type} {n : Nat} {x : α} : ∀ {l : List (Nat × α)},findL n l = some x → (n,x) ∈ l
  | [],h => by cases h
  | (m,y) :: r,h => by
    simp only [findL] at h
    split at h
    · rename_i e;cases h;rw [Nat.eq_of_beq_eq_true e];exact List.mem_cons_self
    · exact List.mem_cons_of_mem _ (findL_mem h)
theorem cons_nil : ConsOk P (fun n => findC n []) := fun _ _ h => by cases h
theorem cons_cx {f : Nat} {c : CX} {l : List (Nat × CX)} (h : c.Ok P f) (k : ConsOk P (fun n => findC n l)) : ConsOk P (fun n => findC n ((f,c) :: l)) := fun g d hd => by
  simp only [findC] at hd
  split at hd
  · rename_i e;cases hd;rw [← Nat.eq_of_beq_eq_true e];exact h
  · exact k g d hd
theorem cons_cons {f : Nat} {c : Con} {l : List (Nat × CX)} (h : ConOk P f c) (k : ConsOk P (fun n => findC n l)) : ConsOk P (fun n => findC n ((f,.con c) :: l)) := cons_cx (c := .con c) h k
theorem cons_row {f : Nat} {r : RowC} {l : List (Nat × CX)} (h : RowOk P f r) (k : ConsOk P (fun n => findC n l)) : ConsOk P (fun n => findC n ((f,.row r) :: l)) := cons_cx (c := .row r) h k
theorem cons_ins {f : Nat} {l : List (Nat × CX)} (h : InsOk P f) (k : ConsOk P (fun n => findC n l)) : ConsOk P (fun n => findC n ((f,.ins) :: l)) := cons_cx (c := .ins) h k
theorem Lp.range {σ : Type} {body : σ → (σ → Prop) → Prop} (n : Nat) (st : Nat → σ) (h : ∀ i,i ≤ n → ∀ R : σ → Prop,(i < n → R (st (i + 1))) → body (st i) R) : Lp body (st 0) := by
  intro R hR
  have key : ∀ k i,i + k = n → R (st i) := by
    intro k
    induction k with
    | zero => exact fun i e => hR _ (h i (by omega) R fun hi => by omega)
    | succ k ih => exact fun i e => hR _ (h i (by omega) R fun _ => ih (i + 1) (by omega))
  exact key n 0 (by omega)
theorem Lp.wf {σ : Type} {body : σ → (σ → Prop) → Prop} (I : σ → Prop) (μ : σ → Nat) (h : ∀ y,I y → ∀ R : σ → Prop,(∀ y',I y' → μ y' < μ y → R y') → body y R) {x : σ} (hx : I x) : Lp body x := by
  intro R hR
  have key : ∀ n y,μ y < n → I y → R y := by
    intro n
    induction n with
    | zero => exact fun y hn => absurd hn (Nat.not_lt_zero _)
    | succ n ih => exact fun y hn hy => hR _ (h y hy R fun y' hy' hlt => ih y' (by omega) hy')
  exact key (μ x + 1) x (Nat.lt_succ_self _) hx
theorem JoinW.intro {σ : Type} {K : σ → Prop} {body : (σ → Prop) → Prop} (h : body K) : JoinW K body := h
theorem cond_intro {b : Bool} {p q : Prop} (h : b = true → p) (k : b = false → q) : cond b p q := by
  cases b with
  | true => exact h rfl
  | false => exact k rfl
end Go.Proofs.YtldikbpclaeajaaGreatDoor
namespace Go.Proofs.YtldikbpclaeajaaGreatDoor
open Go
set_option linter.unusedVariables false
def zeroOf : Ty → List Value
  | .int k => [.int k 0]
  | .bool => [.bool false]
  | .str => [.string ByteArray.empty]
  | .sl _ => [.slice none 0 0]
  | .pair a b => zeroOf a ++ zeroOf b
  | .unit => []
theorem cells_dflt (w : World) (S : Nat → Prop) : ∀ T : Ty,Cells w S T T.dflt (zeroOf T)
  | .int _ => rfl
  | .bool => rfl
  | .str => rfl
  | .sl _ => ⟨none,0,rfl,⟨Nat.le_refl _,Nat.zero_le _⟩,fun h => absurd rfl h⟩
  | .pair a b => ⟨_,_,rfl,cells_dflt w S a,cells_dflt w S b⟩
  | .unit => rfl
theorem tabOk_of {P : Program} {l : List (Nat × TI)} (h : ∀ p ∈ l,p.2.Ok P p.1) : TabOk P (fun t => findL t l) := fun t i ht => h (t,i) (findL_mem ht)
theorem tabOk_sub {P : Program} {l : List (Nat × TI)} (h : ∀ p ∈ l,p.2.Ok P p.1) (q : Nat × TI → Bool) : TabOk P (fun t => findL t (l.filter q)) := fun t i ht => h (t,i) (List.mem_filter.1 (findL_mem ht)).1
theorem TI.ok_mk {P : Program} {t : TypeId} {ti : TI} (h : (P.info? t).map (fun i => (i.size, i.bytes, i.zero.map fun z => (z.cells.toList, z.cells.size))) = some (ti.size, ti.bytes, some (ti.zero, ti.size)))
    (hk : match ti.k with
    | .int k => P.underlying t = some (.int k)
    | .bool => P.underlying t = some .bool
    | .str => P.underlying t = some .string
    | .sl e => P.underlying t = some (.slice e)
    | .arr n e => P.underlying t = some (.array n e) ∧ ∃ zs sz,(P.info? e).map (fun ie => (ie.zero.map fun z => z.cells.toList,ie.size)) = some (some zs,sz) ∧ ti.zero = (List.replicate n zs).flatten ∧ ti.size = n * sz ∧ 0 < n ∧ n ≤ 9223372036854775807 ∧ 0 < sz
    | .st offs => ∃ fs,P.underlying t = some (.struct fs) ∧ fs.toList.map (fun f => (f.offset,P.cellsOf f.type)) = offs ∧ ∀ p ∈ offs,p.2 ≠ 0
    | .ptr => ∃ e,P.underlying t = some (.pointer e)
    | .map k e => P.underlying t = some (.map k e) ∧ (P.info? e).map (fun ie => ie.zero.map fun z => z.oneCell') = some (some true)
    | .fn => ∃ ps rs v,P.underlying t = some (.func ps rs v)
    | .other => True) (hc : match ti.code with | some T => T.size = ti.size ∧ 0 < ti.size ∧ zeroOf T = ti.zero | none => True) : ti.Ok P t := by
  obtain ⟨k,size,bytes,zero,code⟩ := ti
  refine ⟨?_,?_,fun T hT => ?_⟩
  · simp only [Option.map_eq_some_iff,Prod.mk.injEq] at h
    obtain ⟨i,hi,h1,h2,h3⟩ := h
    obtain ⟨z,hz,h4,h5⟩ := h3
    exact ⟨i,z,hi,h1,h2,hz,h4,h5⟩
  · cases k
    case arr n e =>
      obtain ⟨h1,zs,sz,h2,h3⟩ := hk
      simp only [Option.map_eq_some_iff,Prod.mk.injEq] at h2
      obtain ⟨ie,hie,⟨ze,hze,rfl⟩,rfl⟩ := h2
      exact ⟨h1,ie,ze,hie,hze,h3⟩
    case map k e =>
      obtain ⟨h1,h2⟩ := hk
      simp only [Option.map_eq_some_iff] at h2
      obtain ⟨ie,hie,ze,hze,h3⟩ := h2
      exact ⟨h1,ie,ze,hie,hze,h3⟩
    all_goals exact hk
  · simp only at hT
    subst hT
    obtain ⟨h1,h2,h3⟩ := hc
    exact ⟨h1,h2,fun w S => by simp only at h3;rw [← h3];exact cells_dflt w S T⟩
def fiOf (f : Func) : FI := ⟨f.ntmps,f.results.toList,match f.body with | some c => c | none => .skip⟩
theorem fiOk {P : Program} {g : FuncId} {f : Func} (h : P.funcs[g]? = some f) (hb : f.body.isSome = true) (hn : (f.name == "runtime.NumGoroutine") = false) : (fiOf f).Ok P g := by
  refine ⟨f,h,?_,rfl,rfl,hn⟩
  unfold fiOf
  cases hf : f.body with
  | some c => rfl
  | none => rw [hf] at hb;cases hb
theorem fxOk_nil {P : Program} : ∀ g fx,(fun n => findL n ([] : List (Nat × FX))) g = some fx → fx.Ok P g := fun _ _ h => by cases h
theorem fxOk_cons {P : Program} {l : List (Nat × FX)} {f : Nat} {x : FX} (h : x.Ok P f) (k : ∀ g fx,(fun n => findL n l) g = some fx → fx.Ok P g) : ∀ g fx,(fun n => findL n ((f,x) :: l)) g = some fx → fx.Ok P g := fun g fx hg => by
  simp only [findL] at hg
  split at hg
  · rename_i e;cases hg;rw [← Nat.eq_of_beq_eq_true e];exact h
  · exact k g fx hg
theorem conOk_walk {P : Program} {τ : TyTab} (hτ : TabOk P τ) {run : RunT} (hrun : RunOk P run) {A : An} {f : FuncId} {fi : FI} (hok : fi.Ok P f) {ps : List PS} {rs : List Ty} {pre : Option (denPS ps → Prop)} {fn : denPS ps → denL rs} {Wp : denPS ps → (denL rs → Prop) → Prop}
    (hw : ∀ xs Q,Wp xs Q = fnW τ run A fi ps rs xs Q) (hs : ∀ xs,lenPS ps xs → okP (Con.ob ⟨ps,pre,fun xs => resV rs (fn xs)⟩ xs) → Wp xs (fun r => r = fn xs)) : ConOk P f ⟨ps,pre,fun xs => resV rs (fn xs)⟩ :=
  conOk_of hτ hrun hok fun xs hl hp => hw xs _ ▸ hs xs hl hp
end Go.Proofs.YtldikbpclaeajaaGreatDoor
