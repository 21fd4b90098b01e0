/- Part of a proof that a law of the program holds for every input: how abstract states follow the program. No conditions. -/
import Derived.RangeFuncIn
import Derived.RangeFuncOwn
import Derived.RangeFuncRecord
import Derived.Test.YtldikbpclaeajaaGreatDoorF01
namespace Go.Proofs.YtldikbpclaeajaaGreatDoor
open Go
set_option linter.unusedVariables false
variable {P : Program} {τ : TyTab} {κ : ConTab} {E : Env} {objs : Objs}
def lend : Nat → Objs → List V → Option (List V × List Nat)
  | 0,_,_ => none
  | n + 1,os,vs => match fkL vs with
    | none => some (vs,[])
    | some l => match getO l os with
      | some o => match lend n ((l,.dead) :: os) (substL (frz l o) vs) with
        | some (r,ks) => some (r,l :: ks)
        | none => none
      | none => none
theorem reps_subst {E E' : Env} {f : V → V} (h : ∀ v c,Rep P E v c → Rep P E' (v.subst f) c) {vs : List V} {cs : List Value} (r : Reps P E vs cs) : Reps P E' (substL f vs) cs :=
  ⟨by rw [substL_eq,List.length_map];exact r.1,fun j hj => by
    rw [substL_eq,List.length_map] at hj
    rw [substL_getD hj];exact h _ _ (r.2 j hj)⟩
theorem lend_ok : ∀ {n : Nat} {os : Objs} {vs vs' : List V} {ks : List Nat} {E : Env} {cs : List Value}, lend n os vs = some (vs', ks) → Good P E os → Reps P E vs cs →
    ∃ S',(∀ b,E.S b → S' b) ∧ (∀ b,S' b → b < E.w.heap.size) ∧ (ks = [] → S' = E.S) ∧ fkL vs' = none ∧ Reps P ⟨E.w,S',E.loc⟩ vs' cs ∧ ∀ b,S' b → E.S b ∨ ownB E os b
  | 0,_,_,_,_,_,_,h,_,_ => by cases h
  | n + 1,os,vs,vs',ks,E,cs,h,g,r => by
    simp only [lend] at h
    split at h
    · rename_i hk
      cases h
      exact ⟨E.S,fun _ h => h,g.sl,fun _ => rfl,hk,r,fun _ h => .inl h⟩
    · rename_i l hl
      split at h
      · rename_i o ho
        split at h
        · rename_i r' ks' h'
          cases h
          obtain ⟨L,hL,_⟩ := g.at_ l o ho
          obtain ⟨g1,s1⟩ := g.still ho hL
          have hx : Ext E (E.still L.b (o.has L)) [] := ⟨fun b hs => ⟨.inl hs,rfl⟩,fun j K _ hK => hK⟩
          have r1 : Reps P (E.still L.b (o.has L)) (substL (frz l o) vs) cs := reps_subst (fun v c h => subst_rep hx.S (fun v c hr h => frz_rep g ho hL rfl hr h) h) r
          obtain ⟨S',k1,k2,_,k3,k4,k5⟩ := lend_ok h' g1 r1
          refine ⟨S',fun b hb => k1 b (.inl hb),k2,fun h => by simp at h,k3,k4,fun b hb => ?_⟩
          rcases k5 b hb with (h | ⟨h1,h2⟩) | h
          · exact .inl h
          · exact .inr ⟨l,o,L,ho,hL,h1,h2.symm⟩
          · rcases s1.own b h with h3 | h3
            · have := g1.own_lt h
              have h3 : E.w.heap.size ≤ b := h3
              have this : b < E.w.heap.size := this
              omega
            · exact .inr h3
        · cases h
      · cases h
def callD (κ : ConTab) (f : V) (args : List V) : Option (Option Prop × V) := match f with
  | .fn (.func g) fst caps => match κ g with
    | some (.con c) => match getPSs κ 3 c.ps (fst ++ (args ++ caps)) with
      | none => none
      | some xs => some (c.ob xs,c.res xs)
    | _ => none
  | .pf ts rs pre f => match getDL ts args with
    | none => none
    | some xs => some (some (pre xs),resV rs (f xs))
  | _ => none
inductive CR where
  | ok (ob : Option Prop) (v : V)
  | frz (ks : List Nat)
  | no
def callOut (κ : ConTab) (os : Objs) (f : V) (args : List V) : CR := match lend 9 os (f :: args) with
  | some (f' :: args',ks) => match callD κ f' args' with
    | some (ob,v) => match ks with
      | [] => .ok ob v
      | _ => match v.plain with
        | true => .ok ob v
        | false => .frz ks
    | none => .no
  | _ => .no
def Did (P : Program) (r : Option Nat) (o : Oper) (a : Act) (E : Env) (objs : Objs) (out : Out) : Prop :=
  ∀ (next : Act → World → Prop) (Q : Post),(∀ E' v,Good P E' (edit objs out.ed) → Step E objs E' (edit objs out.ed) (moved out.ed) → E.w.drawn ≤ E'.w.drawn → Rep P E' out.v v → next (a.put o.dst v) E'.w) →
    o.wpIn (fz r) 0 P a E.w next Q
theorem Ran.did {r : Option Nat} {o : Oper} {a : Act} {out : Out} (h : Ran P o a.eval E objs out) (hd : ∀ c,o.op ≠ .defer c) : Did P r o a E objs out := by
  intro next Q hn
  obtain ⟨E',n,v,h1,h2,h3,h4,h5⟩ := h
  refine ⟨fun _ _ => trivial,?_⟩
  rw [Oper.semAt_eq _ _ _ hd,h1]
  rcases h2 with rfl | ⟨rfl,rfl⟩
  · exact hn E' v h3 h4 (run_drawn _ _ _ _ h1) h5
  · exact hn E' _ h3 h4 (run_drawn _ _ _ _ h1) h5
theorem callFunc_run {f : FuncId} (h : CallOk P f) (args : Array Value) (w : World) : (callFunc f args).run P w = .ok (.enter f args) w := by
  obtain ⟨fn,h1,h2,h3⟩ := h
  have h4 : fn.body.isNone = false := by cases hb : fn.body <;> simp_all
  simp only [callFunc,Sem.run_bind,run_program,Result.andThen_ok,h1,h3,h4,Bool.false_eq_true,if_false,Sem.run_pure]
theorem call_run {o : Oper} {x : Operand} {args : Array Operand} {tys : Array TypeId} (hop : o.op = .call { callee := .value x, args, argTypes := tys }) {f : FuncId} (hc : CallOk P f) {ρ : Operand → Value} {a b : Array Value}
    (hx : ρ x = .func (.func f) a b) (w : World) : (execOp ρ o).run P w = .ok (.enter f (a ++ args.map ρ ++ b)) w := by
  simp [execOp,hop,resolve,hx,Deferred.ofValue,invoke,callFunc_run hc]
theorem callD_ok (hκ : ConsOk P κ) {f : V} {args : List V} {ob : Option Prop} {v : V} (h : callD κ f args = some (ob, v)) (ho : okP ob) {S' : Nat → Prop} (hS : Sok P E.w S') {c : Value} {cs : List Value}
    (hk : fkL (f :: args) = none) (r : Reps P ⟨E.w,S',E.loc⟩ (f :: args) (c :: cs)) : ∃ g a b,c = .func (.func g) a b ∧ CallOk P g ∧ Calls P g (a ++ cs.toArray ++ b) E.w fun e w2 => ∃ u S2,e = .returned u ∧ GrowS E.w S' w2 S2 ∧ Rep P ⟨w2,S2,E.loc⟩ v u := by
  simp only [callD] at h
  split at h
  · rename_i g fst caps
    split at h
    case h_2 => cases h
    · rename_i k hk'
      split at h
      · cases h
      · rename_i xs hxs
        cases h
        obtain ⟨a,b,rfl,ra,rb⟩ := fn_inv r.head
        have hok : ConOk P g k := hκ g _ hk'
        refine ⟨g,a,b,rfl,hok.1,?_⟩
        have hcl : ∀ vs ds,fkL vs = none → Reps P ⟨E.w,S',E.loc⟩ vs ds → Reps P ⟨E.w,S',fun _ => none⟩ vs ds := fun vs ds hf h => closed_reps (E := ⟨E.w,S',E.loc⟩) (E' := ⟨E.w,S',fun _ => none⟩) (fun b hb => ⟨hb,rfl⟩) h hf
        have hf : (V.fn (.func g) fst caps).fk = none := by
          simp only [fkL] at hk;split at hk
          · cases hk
          · rename_i h;exact h
        have hargs : fkL args = none := by
          simp only [fkL,hf] at hk;exact hk
        have hfst : fkL fst = none := by
          simp only [V.fk] at hf;split at hf
          · cases hf
          · rename_i h;exact h
        have hcaps : fkL caps = none := by simp only [V.fk,hfst] at hf;exact hf
        have rs : Reps P ⟨E.w,S',fun _ => none⟩ (fst ++ (args ++ caps)) (a ++ cs.toArray ++ b).toList := by
          have := (hcl _ _ hfst ra).append ((hcl _ _ hargs r.tail).append (hcl _ _ hcaps rb))
          simpa using this
        refine Calls.mono (hok.2 E.w S' xs hS ho _ (getPSs_ok hκ 3 _ _ _ _ _ hxs rs)) ?_
        rintro e w2 ⟨u,S2,rfl,hg,hu⟩
        refine ⟨u,S2,rfl,hg,?_⟩
        exact Rep.mono (E := ⟨w2,S2,fun _ => none⟩) (E' := ⟨w2,S2,E.loc⟩) ⟨fun b hb => ⟨hb,rfl⟩,fun l L _ h => by cases h⟩ hu
  · rename_i ts rs pre fn
    split at h
    · cases h
    · rename_i xs hxs
      cases h
      have r0 := r.head
      cases r0 with
      | pf hp =>
        obtain ⟨g,a,b,rfl,hc,hcall⟩ := hp
        refine ⟨g,a,b,rfl,hc,Calls.mono (hcall E.w S' (fun k hk => ⟨hk,rfl⟩) hS xs ho cs.toArray (by simpa using getDL_args hxs r.tail)) ?_⟩
        rintro e w2 ⟨u,S2,rfl,hg,hu⟩
        exact ⟨u,S2,rfl,hg,res_rep hu⟩
  · cases h
theorem Good.os {E : Env} {os objs : Objs} (g : Good P E objs) (hs : Sub os objs) : Good P E os :=
  ⟨fun l o h => g.at_ l o (hs l o h),fun b h => by
    obtain ⟨l,o,L,h1,h2,h3,h4⟩ := h
    exact g.ns b ⟨l,o,L,hs l o h1,h2,h3,h4⟩,g.sl,g.tab,fun i j o o' L L' h1 h2 h3 h4 h5 h6 h7 => g.inj i j o o' L L' (hs i o h1) (hs j o' h2) h3 h4 h5 h6 h7⟩
theorem call_did (hκ : ConsOk P κ) {r : Option Nat} {o : Oper} {a : Act} {x : Operand} {args : Array Operand} {tys : Array TypeId} (hop : o.op = .call { callee := .value x, args, argTypes := tys }) {tmps : List (Nat × V)} {ob : Option Prop} {v : V}
    {os : Objs} (h : callOut κ os (evV tmps x) (mapEv tmps args.toList) = .ok ob v) (ho : okP ob) (hs : Sub os objs) (g : Good P E objs) (hx : Rep P E (evV tmps x) (a.eval x)) (hr : ∀ y ∈ args.toList,Rep P E (evV tmps y) (a.eval y)) : Did P r o a E objs ⟨ob,v,none⟩ := by
  intro next Q hn
  have hargs : Reps P E (evV tmps x :: mapEv tmps args.toList) (a.eval x :: args.toList.map a.eval) := .cons hx (mapEv_reps hr)
  have key : ∀ f' args' ks,lend 9 os (evV tmps x :: mapEv tmps args.toList) = some (f' :: args',ks) → callD κ f' args' = some (ob,v) → (ks = [] ∨ v.plain = true) → o.wpIn (fz r) 0 P a E.w next Q := by
    intro f' args' ks h1 h2 h3
    obtain ⟨S',k1,k2,k3,k4,k5,_⟩ := lend_ok h1 (g.os hs) hargs
    obtain ⟨gf,p,q,e1,e2,e3⟩ := callD_ok (E := E) hκ h2 ho ⟨k2,g.tab.mono fun b hb => ⟨k1 b hb,rfl⟩⟩ k4 k5
    refine ⟨fun _ _ => trivial,?_⟩
    rw [Oper.semAt_eq _ _ _ (fun c => by rw [hop];simp),call_run hop e2 e1,Oper.uponIn_enter]
    refine ⟨fun h => by simp [fz,Fence.wide] at h,fz_calls ?_⟩
    have e3' : Calls P gf (p ++ args.map a.eval ++ q) E.w fun e w2 => ∃ u S2,e = .returned u ∧ GrowS E.w S' w2 S2 ∧ Rep P ⟨w2,S2,E.loc⟩ v u := by
      have : (args.toList.map a.eval).toArray = args.map a.eval := Array.ext' (by rw [Array.toList_map])
      rw [this] at e3;exact e3
    refine Calls.mono e3' ?_
    rintro e w2 ⟨u,S2,rfl,hg,hu⟩
    rcases h3 with h3 | h3
    · have e := k3 h3
      subst e
      have := g.grow hg
      exact hn ⟨w2,S2,E.loc⟩ u this.1 this.2 hg.drawn hu
    · have := g.grow (w := w2) (S := E.S) ⟨hg.drawn,hg.os,hg.tape,hg.output,hg.size,hg.frame,fun _ h => h,fun _ h => .inl h,fun b hb => Nat.lt_of_lt_of_le (g.sl b hb) hg.size⟩
      exact hn ⟨w2,E.S,E.loc⟩ u this.1 this.2 hg.drawn (plain_rep hu h3)
  simp only [callOut] at h
  split at h
  · rename_i f' args' ks h1
    split at h
    · rename_i ob' v' h2
      split at h
      · cases h
        exact key _ _ _ h1 h2 (.inl rfl)
      · split at h
        · rename_i hp
          cases h
          exact key _ _ _ h1 h2 (.inr hp)
        · cases h
    · cases h
  · cases h
def markIn (l : Nat) : List Df → Bool
  | [] => false
  | .mark k :: r => match Nat.beq k l with
    | true => true
    | false => markIn l r
  | .fn _ _ :: r => markIn l r
def edOk (nx : Nat) (df : List Df) : Option (Nat × Obj × Bool) → Bool
  | none => true
  | some (l,_,false) => Nat.ble l nx
  | some (l,_,true) => match Nat.ble l nx with
    | true => !markIn l df
    | false => false
theorem DfRel.moved {E E' : Env} {l : Nat} (hx : Ext E E' [l]) : ∀ {df : List Df} {ds : List Deferred},markIn l df = false → DfRel P E df ds → DfRel P E' (substD (invF l) df) ds
  | [],_,_,h => h
  | .mark k :: r,_,hm,⟨L,rest,h1,⟨K,hK,h2⟩,h3⟩ => by
    simp only [markIn] at hm
    split at hm
    · cases hm
    · rename_i hne
      exact ⟨L,rest,h1,⟨K,hx.loc k K (by simp;exact Nat.ne_of_beq_eq_false hne) hK,h2⟩,h3.moved hx hm⟩
  | .fn g cs :: r,_,hm,⟨q,rest,h1,h2,h3⟩ => ⟨q,rest,h1,reps_subst (fun v c h => inv_rep hx h) h2,h3.moved hx hm⟩
theorem put_getD {a : Act} {d t : Nat} {v : Value} (hd : d < a.tmps.size) : (a.put (some d) v).tmps.getD t undef = if d = t then v else a.tmps.getD t undef := by
  simp only [Act.put,Array.getD_eq_getD_getElem?,Array.getElem?_setIfInBounds]
  split
  · rename_i e;subst e;simp
  · rfl
theorem RelE.setT {cx : Cx} {s s' : St} {a : Act} {dst : Option Nat} {v : V} {c : Value} (r : RelE P cx s a E) (h : s.setT dst v = some s') (rv : Rep P E v c) : RelE P cx s' (a.put dst c) E := by
  unfold St.setT at h
  split at h
  · cases h
    exact ⟨r.good,r.fresh,r.step,r.drawn,r.size,r.df,r.rep⟩
  · rename_i d
    split at h
    · rename_i hd
      obtain ⟨nt,tmps,objs,nx,df,wr,di,mv⟩ := s
      cases h
      have hd : d < nt := Nat.le_of_ble_eq_true hd
      have hsz : a.tmps.size = nt := r.size
      refine ⟨r.good,r.fresh,r.step,r.drawn,by simp [Act.put,hsz],r.df,fun t => ?_⟩
      rw [put_getD (by omega)]
      show Rep P E (look t ((d,v) :: tmps)) _
      rw [look_cons]
      split
      · exact rv
      · exact r.rep t
    · cases h
theorem RelE.edit {cx : Cx} {s : St} {a : Act} {E' : Env} {ed : Option (Nat × Obj × Bool)} (r : RelE P cx s a E) (hed : edOk s.nx s.df ed = true) (hd : E.w.drawn ≤ E'.w.drawn) (g : Good P E' (YtldikbpclaeajaaGreatDoor.edit s.objs ed)) (st : Step E s.objs E' (YtldikbpclaeajaaGreatDoor.edit s.objs ed) (YtldikbpclaeajaaGreatDoor.moved ed)) :
    RelE P cx (s.edit ed) a E' := by
  obtain ⟨nt,tmps,objs,nx,df,wr,di,mv⟩ := s
  have hnew : ∀ k,nx ≤ k → getO k objs = none := fun k hk => by
    cases h : getO k objs with
    | none => rfl
    | some o => obtain ⟨L,hL,_⟩ := r.good.at_ k o h;rw [r.fresh k hk] at hL;cases hL
  have hfr : ∀ l,l ≤ nx → ∀ k,bump l nx ≤ k → nx ≤ k ∧ k ≠ l := fun l hl k hk => by
    unfold bump at hk
    split at hk
    · rename_i e;have := Nat.eq_of_beq_eq_true e;omega
    · rename_i e;have := Nat.ne_of_beq_eq_false e;omega
  match ed,hed,g,st with
  | none,_,g,st =>
    refine ⟨g,fun k hk => ?_,r.step.trans st,Nat.le_trans r.drawn hd,r.size,r.df.ext st.ext,fun t => (r.rep t).mono st.ext⟩
    rw [st.dom k (hnew k hk)];exact r.fresh k hk
  | some (l,o,false),hed,g,st =>
    have hl : l ≤ nx := Nat.le_of_ble_eq_true hed
    refine ⟨g,fun k hk => ?_,r.step.trans st,Nat.le_trans r.drawn hd,r.size,r.df.ext st.ext,fun t => (r.rep t).mono st.ext⟩
    obtain ⟨h1,h2⟩ := hfr l hl k hk
    have : getO k (YtldikbpclaeajaaGreatDoor.edit objs (some (l,o,false))) = none := by
      simp only [YtldikbpclaeajaaGreatDoor.edit];rw [getO_cons,if_neg (Ne.symm h2)];exact hnew k h1
    rw [st.dom k this];exact r.fresh k h1
  | some (l,o,true),hed,g,st =>
    simp only [edOk] at hed
    split at hed
    · rename_i hl
      have hl : l ≤ nx := Nat.le_of_ble_eq_true hl
      refine ⟨g,fun k hk => ?_,r.step.trans st,Nat.le_trans r.drawn hd,r.size,r.df.moved st.ext (by simpa using hed),fun t => ?_⟩
      · obtain ⟨h1,h2⟩ := hfr l hl k hk
        have : getO k (YtldikbpclaeajaaGreatDoor.edit objs (some (l,o,true))) = none := by
          simp only [YtldikbpclaeajaaGreatDoor.edit];rw [getO_cons,if_neg (Ne.symm h2),getO_subst,hnew k h1];rfl
        rw [st.dom k this];exact r.fresh k h1
      · show Rep P E' (look t (substT (invF l) tmps)) _
        rw [substT_map,look_subst]
        exact inv_rep st.ext (r.rep t)
    · cases hed
end Go.Proofs.YtldikbpclaeajaaGreatDoor
namespace Go.Proofs.YtldikbpclaeajaaGreatDoor
open Go
set_option linter.unusedVariables false
variable {P : Program} {τ : TyTab} {κ : ConTab}
def freezeL : List Nat → St → St
  | [],s => s
  | l :: r,s => freezeL r (s.freeze l)
theorem wk_freezeL {cx : Cx} : ∀ (ks : List Nat) (s : St),Wk P cx s (freezeL ks s)
  | [],s => .refl s
  | l :: r,s => (wk_freeze l).trans (wk_freezeL r _)
theorem Inv.freezeL : ∀ (ks : List Nat) (s : St),Inv s (freezeL ks s)
  | [],s => .refl s
  | l :: r,s => (Inv.freeze l s).trans (Inv.freezeL r _)
def rowC (κ : ConTab) (f : V) : Option (Option RowC) := match f with
  | .fn (.func g) [] [] => match κ g with
    | some (.row r) => some (some r)
    | some .ins => some none
    | _ => none
  | _ => none
def insOut (os : Objs) (args : List V) : Option Out := match args with
  | [.osl l,.d (.int .i64) i,.osl k] => match Nat.beq l k with
    | true => none
    | false => match getO l os with
      | some (.row (.int .i64) xs) => match getO k os with
        | some (.row (.int .i64) zs) => some ⟨some (0 ≤ i ∧ i ≤ (List.length (α := Int) xs : Int) ∧ (List.length (α := Int) xs + List.length (α := Int) zs) * 8 ≤ 140737488355328),.osl l,some (l,.row (.int .i64) (List.take (α := Int) i.toNat xs ++ zs ++ List.drop (α := Int) i.toNat xs),true)⟩
        | _ => none
      | _ => none
  | _ => none
def rowOut (κ : ConTab) (os : Objs) (r : Option RowC) (args : List V) (n : Nat) : Option Out := match r with
  | none => insOut os args
  | some ⟨T,false,ps,pre,fn⟩ => match fkL args with
    | none => match getPSs κ 3 ps args with
      | some ys => some ⟨some (pre [] ys),.osl n,some (n,.row T (fn [] ys),false)⟩
      | none => none
    | some _ => none
  | some ⟨T,true,ps,pre,fn⟩ => match args with
    | .osl l :: rest => match getO l os with
      | some (.row T' xs) => if h : T' = T then match fkL rest with
          | none => match getPSs κ 3 ps rest with
            | some ys => some ⟨some (pre (h ▸ xs) ys),.osl l,some (l,.row T (fn (h ▸ xs) ys),true)⟩
            | none => none
          | some _ => none
        else none
      | _ => none
    | _ => none
def effQ (τ : TyTab) (κ : ConTab) (op : Op) (tmps : List (Nat × V)) (objs : Objs) (nx : Nat) : Option Out := match op with
  | .call { callee := .value x,args,.. } => match rowC κ (evV tmps x) with
    | some r => rowOut κ objs r (mapEv tmps args.toList) nx
    | none => match callOut κ objs (evV tmps x) (mapEv tmps args.toList) with
      | .ok ob v => some ⟨ob,v,none⟩
      | _ => none
  | op => eff τ op tmps objs nx
def lendKs (objs : Objs) (vs : List V) : List Nat := match lend 9 objs vs with
  | some (_,ks) => ks
  | none => []
def toFrz (τ : TyTab) (κ : ConTab) (op : Op) (tmps : List (Nat × V)) (objs : Objs) : List Nat := match op with
  | .buildSlice t _ parts => match τ t with
    | some ⟨.sl e,_,_,_,_⟩ => match τ e with
      | some ⟨_,_,_,_,some _⟩ => lendKs objs (mapEv tmps (parts.toList.map (·.2)))
      | _ => []
    | _ => []
  | .store _ a x => match evV tmps a with
    | .rref l _ _ => match getO l objs with
      | some (.vrow ..) => []
      | _ => lendKs objs [evV tmps x]
    | _ => []
  | .mapUpdate _ _ _ x => lendKs objs [evV tmps x]
  | .call { callee := .value x,args,.. } => match rowC κ (evV tmps x) with
    | some none => []
    | some (some r) => match r.own with
      | false => lendKs objs (mapEv tmps args.toList)
      | true => lendKs objs (mapEv tmps args.toList).tail
    | none => match callOut κ objs (evV tmps x) (mapEv tmps args.toList) with
      | .frz ks => ks
      | _ => []
  | _ => []
def stepU (τ : TyTab) (κ : ConTab) (dst : Option Nat) (op : Op) (s : St) : Option (Option Prop × St) := match s with
  | ⟨nt,tmps,objs,nx,df,wr,di,mv⟩ => match freezeL (toFrz τ κ op tmps objs) ⟨nt,tmps,objs,nx,df,wr,di,mv⟩ with
    | ⟨nt,tmps,objs,nx,df,wr,di,mv⟩ => match effQ τ κ op tmps objs nx with
      | none => none
      | some ⟨ob,v,ed⟩ => match edOk nx df ed with
        | false => none
        | true => match (St.mk nt tmps objs nx df wr di mv).edit ed with
          | ⟨nt,tmps,objs,nx,df,wr,di,mv⟩ => match (St.mk nt tmps objs nx df wr di mv).setT dst v with
            | none => none
            | some s' => some (ob,s')
def V.bare : V → V
  | .when _ v => v
  | v => v
def bareT : List (Nat × V) → List (Nat × V)
  | [] => []
  | (t,v) :: r => (t,v.bare) :: bareT r
theorem look_bare (t : Nat) : ∀ l : List (Nat × V),look t (bareT l) = (look t l).bare
  | [] => rfl
  | (u,v) :: l => by
    rw [bareT,look_cons,look_cons]
    split
    · rfl
    · exact look_bare t l
def condOf (tmps : List (Nat × V)) : Operand → Option Bool
  | .tmp t => match look t tmps with
    | .when q _ => some q
    | _ => none
  | _ => none
def condsOf (tmps : List (Nat × V)) : List Operand → List Bool
  | [] => []
  | x :: l => match condOf tmps x with
    | some q => q :: condsOf tmps l
    | none => condsOf tmps l
def allT : List Bool → Prop → Prop
  | [],p => p
  | q :: l,p => q = true ∧ allT l p
def guardOb (g : Bool) (qs : List Bool) (ob : Option Prop) : Option Prop := match qs with
  | [] => match ob with
    | none => none
    | some p => some (g = true → p)
  | qs => some (g = true → allT qs (okP ob))
theorem allT_inv {p : Prop} : ∀ {l : List Bool},allT l p → p ∧ ∀ q ∈ l,q = true
  | [],h => ⟨h,fun q hq => by simp at hq⟩
  | q :: l,h => by
    obtain ⟨h1,h2⟩ := allT_inv h.2
    exact ⟨h1,fun r hr => (List.mem_cons.1 hr).elim (fun e => e ▸ h.1) (h2 r)⟩
theorem guardOb_inv {g : Bool} {qs : List Bool} {ob : Option Prop} (h : okP (guardOb g qs ob)) (hg : g = true) : okP ob ∧ ∀ q ∈ qs,q = true := by
  cases qs with
  | nil => cases ob with
    | none => exact ⟨trivial,fun q hq => by simp at hq⟩
    | some p => exact allT_inv (l := []) (h hg)
  | cons q l => exact allT_inv (l := q :: l) (h hg)
theorem condsOf_mem {tmps : List (Nat × V)} : ∀ {l : List Operand} {x : Operand},x ∈ l → ∀ q,condOf tmps x = some q → q ∈ condsOf tmps l
  | y :: l,x,hx,q,hq => by
    rcases List.mem_cons.1 hx with rfl | hx
    · simp only [condsOf,hq];exact List.mem_cons_self
    · have := condsOf_mem hx q hq
      simp only [condsOf]
      split
      · exact List.mem_cons_of_mem _ this
      · exact this
theorem bare_rep {E : Env} {tmps : List (Nat × V)} {x : Operand} {c : Value} (r : Rep P E (evV tmps x) c) (h : ∀ q,condOf tmps x = some q → q = true) : Rep P E (evV (bareT tmps) x) c := by
  cases x with
  | tmp t =>
    show Rep P E (look t (bareT tmps)) c
    rw [look_bare]
    have h' : ∀ q v,look t tmps = .when q v → q = true := fun q v e => h q (by simp [condOf,e])
    change Rep P E (look t tmps) c at r
    generalize look t tmps = v at r h'
    cases v with
    | when q v => cases r with | when h1 h2 => exact h1 (h' q v rfl)
    | _ => exact r
  | _ => exact r
def bare1T (u : Nat) : List (Nat × V) → List (Nat × V)
  | [] => []
  | (t,v) :: r => match Nat.beq t u with
    | true => (t,v.bare) :: bare1T u r
    | false => (t,v) :: bare1T u r
theorem look_bare1 (u t : Nat) : ∀ l : List (Nat × V),look t (bare1T u l) = if t = u then (look t l).bare else look t l
  | [] => by simp only [bare1T];split <;> rfl
  | (k,v) :: l => by
    have ih := look_bare1 u t l
    simp only [bare1T]
    split
    · rename_i hk
      have hk := Nat.eq_of_beq_eq_true hk
      rw [look_cons,look_cons]
      split
      · rename_i e;rw [if_pos (by omega)]
      · exact ih
    · rename_i hk
      have hk : k ≠ u := fun e => by rw [e,Nat.beq_refl] at hk;cases hk
      rw [look_cons,look_cons]
      split
      · rename_i e;rw [if_neg (by omega)]
      · exact ih
def bareP (op : Op) (tmps : List (Nat × V)) : List (Nat × V) := match op with
  | .pick c _ _ => match c with
    | .tmp u => bare1T u tmps
    | _ => tmps
  | _ => bareT tmps
def condsP (op : Op) (tmps : List (Nat × V)) : List Bool := match op with
  | .pick c _ _ => condsOf tmps [c]
  | _ => condsOf tmps op.operands.toList
def guardOf (want : Bool) (v : V) : Option Bool := match v with
  | .d .bool b => match want with
    | true => some b
    | false => some (!b)
  | .when q (.d .bool b) => match want with
    | true => some (q && b)
    | false => some (q && !b)
  | _ => none
def gdOf (ops : List Oper) (j : Nat) : Option Nat := match ops[j]? with
  | some ⟨some d,_,_,_,_,_⟩ => some d
  | _ => none
def stepG (τ : TyTab) (κ : ConTab) (dst : Option Nat) (op : Op) (g : Bool) (s : St) : Option (Option Prop × St) := match s with
  | ⟨nt,tmps,objs,nx,df,wr,di,mv⟩ => match effQ τ κ op (bareP op tmps) objs nx with
    | some ⟨ob,v,none⟩ => match (St.mk nt tmps objs nx df wr di mv).setT dst (.when g v) with
      | some s' => some (guardOb g (condsP op tmps) ob,s')
      | none => none
    | _ => none
theorem bareP_rep {E : Env} {op : Op} {tmps : List (Nat × V)} {x : Operand} {c : Value} (hx : x ∈ op.operands) (r : Rep P E (evV tmps x) c) (h : ∀ q ∈ condsP op tmps,q = true) : Rep P E (evV (bareP op tmps) x) c := by
  unfold bareP
  split
  · rename_i c0 a b
    split
    · rename_i u
      cases x with
      | tmp t =>
        show Rep P E (look t (bare1T u tmps)) c
        rw [look_bare1]
        split
        · rename_i e
          subst e
          have := bare_rep r (fun q hq => h q (condsOf_mem (List.mem_cons_self) q hq))
          change Rep P E (look t (bareT tmps)) c at this
          rw [look_bare] at this
          exact this
        · exact r
      | _ => exact r
    · exact r
  · rename_i hn
    have e : condsP op tmps = condsOf tmps op.operands.toList := by
      unfold condsP
      split
      · rename_i c0 a b;exact absurd rfl (hn c0 a b)
      · rfl
    rw [e] at h
    exact bare_rep r (fun q hq => h q (condsOf_mem (Array.mem_toList_iff.2 hx) q hq))
def RowXOk (P : Program) (g : FuncId) : Option RowC → Prop
  | some r => RowOk P g r
  | none => InsOk P g
theorem rowC_ok (hκ : ConsOk P κ) {f : V} {r : Option RowC} (h : rowC κ f = some r) : ∃ g,f = .fn (.func g) [] [] ∧ RowXOk P g r := by
  unfold rowC at h
  split at h
  · rename_i g
    split at h
    · rename_i r' hk;cases h;exact ⟨g,rfl,hκ g _ hk⟩
    · rename_i hk;cases h;exact ⟨g,rfl,hκ g _ hk⟩
    · cases h
  · cases h
theorem fn_plain {E : Env} {g : FuncId} {c : Value} (h : Rep P E (.fn (.func g) [] []) c) : c = .func (.func g) #[] #[] := by
  obtain ⟨p,q,rfl,k1,k2⟩ := fn_inv h
  have h1 : p = #[] := by have := k1.1;simpa using this
  have h2 : q = #[] := by have := k2.1;simpa using this
  rw [h1,h2]
theorem AppR.put {E : Env} {objs : Objs} {l : Nat} {L K : Loc} {T : Ty} {xs zs : List T.den} {w : World} (h : AppR P E L T xs w K zs) (g : Good P E objs) (hobj : getO l objs = some (.row T xs)) (hL : E.loc l = some L) :
    Good P (E.setL w l K) (edit objs (some (l,.row T zs,true))) ∧ Step E objs (E.setL w l K) (edit objs (some (l,.row T zs,true))) [l] := by
  obtain ⟨row,hw,hrow,hnew,hhas,_⟩ := h
  exact Good.put g (mv := true) (o' := .row T zs) (L' := K) hobj hL hw hrow (fun h => by cases h) (hnew _) hhas
theorem row_run (hκ : ConsOk P κ) {f : V} {r : Option RowC} (hr : rowC κ f = some r) {os objs : Objs} {args : List V} {n : Nat} {out : Out} (h : rowOut κ os r args n = some out) (hs : Sub os objs) (ho : okP out.ob) {E : Env} (g : Good P E objs) {c : Value} {cs : List Value}
    (rf : Rep P E f c) (ra : Reps P E args cs) : ∃ gf,c = .func (.func gf) #[] #[] ∧ CallOk P gf ∧ ∃ T,
    ((∃ zs,out.v = .osl n ∧ out.ed = some (n,.row T zs,false) ∧ Calls P gf cs.toArray E.w fun e w2 => ∃ K,e = .returned K.v ∧ E.w.grownBy w2 none ∧ E.w.drawn ≤ w2.drawn ∧ (∀ lo,ObjAt P ⟨w2,E.S,lo⟩ K (.row T zs)) ∧ ((Obj.row T zs).has K → E.w.heap.size ≤ K.b)) ∨
     (∃ l L xs zs,getO l os = some (.row T xs) ∧ E.loc l = some L ∧ out.v = .osl l ∧ out.ed = some (l,.row T zs,true) ∧ Calls P gf cs.toArray E.w fun e w2 => ∃ K,e = .returned K.v ∧ AppR P E L T xs w2 K zs)) := by
  obtain ⟨gf,rfl,hok⟩ := rowC_ok hκ hr
  have hcl : ∀ vs ds,fkL vs = none → Reps P E vs ds → Reps P ⟨E.w,E.S,fun _ => none⟩ vs ds := fun vs ds hf h => closed_reps (E := E) (E' := ⟨E.w,E.S,fun _ => none⟩) (fun b hb => ⟨hb,rfl⟩) h hf
  match r,hok with
  | none,hok =>
    refine ⟨gf,fn_plain rf,hok.1,.int .i64,?_⟩
    unfold rowOut insOut at h
    simp only at h
    split at h
    · rename_i l i k
      split at h
      · cases h
      · rename_i hne
        split at h
        · rename_i xs hl
          split at h
          · rename_i zs hk
            cases h
            obtain ⟨h0,h1,h2⟩ := ho
            match cs,ra with
            | [a,b,c],ra =>
              obtain ⟨L,hL,rfl⟩ := osl_inv ra.head
              have e := ra.tail.head.int_inv
              subst e
              obtain ⟨K,hK,rfl⟩ := osl_inv ra.tail.tail.head
              exact .inr ⟨l,L,xs,_,hl,hL,rfl,rfl,hok.2 E objs l k L K xs zs i g (hs l _ hl) (hs k _ hk) (Nat.ne_of_beq_eq_false hne) hL hK h0 h1 h2⟩
            | [],ra => exact absurd ra.1 (by simp)
            | [_],ra => exact absurd ra.1 (by simp)
            | [_,_],ra => exact absurd ra.1 (by simp)
            | _ :: _ :: _ :: _ :: _,ra => exact absurd ra.1 (by simp)
          · cases h
        · cases h
    · cases h
  | some ⟨T,false,ps,pre,fn⟩,hok =>
    refine ⟨gf,fn_plain rf,hok.1,T,?_⟩
    unfold rowOut at h
    simp only at h
    split at h
    · rename_i hk
      split at h
      · rename_i ys hys
        cases h
        exact .inl ⟨_,rfl,rfl,hok.2 E.w E.S ys g.sok ho _ (getPSs_ok hκ 3 _ _ _ _ _ hys (by simpa using hcl _ _ hk ra))⟩
      · cases h
    · cases h
  | some ⟨T,true,ps,pre,fn⟩,hok =>
    refine ⟨gf,fn_plain rf,hok.1,T,?_⟩
    unfold rowOut at h
    simp only at h
    split at h
    · rename_i l rest
      split at h
      · rename_i T' xs hobj
        split at h
        · rename_i hT
          subst hT
          split at h
          · rename_i hk
            split at h
            · rename_i ys hys
              cases h
              match cs,ra with
              | [],ra => exact absurd ra.1 (by simp)
              | c :: cs,ra =>
                obtain ⟨L,hL,rfl⟩ := osl_inv ra.head
                exact .inr ⟨l,L,xs,_,hobj,hL,rfl,rfl,hok.2 E objs l L xs ys g (hs l _ hobj) hL ho cs (getPSs_ok hκ 3 _ _ _ _ _ hys (hcl _ _ hk ra.tail))⟩
            · cases h
          · cases h
        · cases h
      · cases h
    · cases h
theorem call_wp {r : Option Nat} {o : Oper} {a : Act} {x : Operand} {args : Array Operand} {tys : Array TypeId} (hop : o.op = .call { callee := .value x, args, argTypes := tys }) {gf : FuncId} (hx : a.eval x = .func (.func gf) #[] #[]) (hc : CallOk P gf) {E : Env} {R : Ending → World → Prop}
    (h : Calls P gf (args.toList.map a.eval).toArray E.w R) {next : Act → World → Prop} {Q : Post} (hn : ∀ e w2,R e w2 → ∃ u,e = .returned u ∧ next (a.put o.dst u) w2) : o.wpIn (fz r) 0 P a E.w next Q := by
  refine ⟨fun _ _ => trivial,?_⟩
  rw [Oper.semAt_eq _ _ _ (fun c => by rw [hop];simp),call_run hop hc hx,Oper.uponIn_enter]
  refine ⟨fun h => by simp [fz,Fence.wide] at h,fz_calls ?_⟩
  have e3 : Calls P gf (#[] ++ args.map a.eval ++ #[]) E.w R := by
    have : (args.toList.map a.eval).toArray = args.map a.eval := Array.ext' (by rw [Array.toList_map])
    rw [this] at h;simpa using h
  refine Calls.mono e3 ?_
  intro e w2 hR
  obtain ⟨u,rfl,hu⟩ := hn e w2 hR
  exact hu
theorem row_did (hκ : ConsOk P κ) {r : Option Nat} {o : Oper} {a : Act} {x : Operand} {args : Array Operand} {tys : Array TypeId} (hop : o.op = .call { callee := .value x, args, argTypes := tys }) {tmps : List (Nat × V)} {rc : Option RowC} {out : Out} {n : Nat}
    {os objs : Objs} {E : Env} (hr : rowC κ (evV tmps x) = some rc) (h : rowOut κ os rc (mapEv tmps args.toList) n = some out) (ho : okP out.ob) (hs : Sub os objs) (g : Good P E objs) (hf : E.loc n = none) (hx : Rep P E (evV tmps x) (a.eval x)) (hra : ∀ y ∈ args.toList,Rep P E (evV tmps y) (a.eval y)) : Did P r o a E objs out := by
  intro next Q hn
  obtain ⟨gf,e1,e2,T,e3⟩ := row_run hκ hr h hs ho g hx (mapEv_reps hra)
  rcases e3 with ⟨zs,h1,h2,hc⟩ | ⟨l,L,xs,zs,h0,hL,h1,h2,hc⟩
  · refine call_wp hop e1 e2 hc ?_
    rintro e w2 ⟨K,rfl,hg,hd,hat,hhas⟩
    obtain ⟨g',st⟩ := Good.push g (w := w2) (l := n) (L := K) (o := .row T zs) hf hg (hat _) hhas
    rw [h1,h2] at hn
    exact ⟨_,rfl,hn (E.setL w2 n K) K.v g' st hd (.osl (setL_same _ _ _ _))⟩
  · refine call_wp hop e1 e2 hc ?_
    rintro e w2 ⟨K,rfl,hA⟩
    obtain ⟨g',st⟩ := hA.put g (hs l _ h0) hL
    have hd : E.w.drawn ≤ w2.drawn := by obtain ⟨_,_,_,_,_,h⟩ := hA;exact h
    rw [h1,h2] at hn
    exact ⟨_,rfl,hn (E.setL w2 l K) K.v g' st hd (.osl (setL_same _ _ _ _))⟩
theorem effQ_did (hτ : TabOk P τ) (hκ : ConsOk P κ) {r : Option Nat} {o : Oper} {tmps : List (Nat × V)} {os objs : Objs} {nx : Nat} {out : Out} {E : Env} {a : Act} (h : effQ τ κ o.op tmps os nx = some out) (hs : Sub os objs) (ho : okP out.ob) (g : Good P E objs)
    (hf : E.loc nx = none) (hr : ∀ x ∈ o.op.operands,Rep P E (evV tmps x) (a.eval x)) : Did P r o a E objs out := by
  have plain : (∀ x args tys,o.op ≠ .call { callee := .value x,args,argTypes := tys }) → eff τ o.op tmps os nx = some out → Did P r o a E objs out := fun hn he =>
    (eff_ok hτ he hs ho g hf hr (fun _ => rfl)).did fun c e => by rw [e] at he;cases he
  unfold effQ at h
  split at h
  · rename_i x args tys hop
    split at h
    · rename_i rc hrc
      exact row_did hκ hop hrc h ho hs g hf (hr x (by rw [hop];simp [Op.operands,Call.operands])) (fun y hy => hr y (by rw [hop];simp only [Op.operands,Call.operands];simp [Array.mem_toList_iff.1 hy]))
    · split at h
      · rename_i ob v hc
        cases h
        exact call_did' hκ hop hc hs ho g (fun y hy => hr y (by rw [hop];exact hy))
      · cases h
  · rename_i hn
    exact plain (fun x args tys e => hn x args tys e) h
where
  call_did' {κ : ConTab} (hκ : ConsOk P κ) {E : Env} {os objs : Objs} {r : Option Nat} {o : Oper} {a : Act} {x : Operand} {args : Array Operand} {tys : Array TypeId} (hop : o.op = .call { callee := .value x,args,argTypes := tys }) {tmps : List (Nat × V)} {ob : Option Prop} {v : V}
    (h : callOut κ os (evV tmps x) (mapEv tmps args.toList) = .ok ob v) (hs : Sub os objs) (ho : okP ob) (g : Good P E objs) (hr : ∀ y ∈ (Op.call { callee := .value x,args,argTypes := tys }).operands,Rep P E (evV tmps y) (a.eval y)) : Did P r o a E objs ⟨ob,v,none⟩ :=
    call_did hκ hop h ho hs g (hr x (by simp [Op.operands,Call.operands])) (fun y hy => hr y (by simp only [Op.operands,Call.operands];simp [Array.mem_toList_iff.1 hy]))
theorem stepU_ok (hτ : TabOk P τ) (hκ : ConsOk P κ) {r : Option Nat} {cx : Cx} {o : Oper} {s s' : St} {ob : Option Prop} {a : Act} {w : World} (h : stepU τ κ o.dst o.op s = some (ob, s')) (ho : okP ob) (hr : Rel P cx s a w)
    {next : Act → World → Prop} {Q : Post} (hn : ∀ a' w',Rel P cx s' a' w' → next a' w') : o.wpIn (fz r) 0 P a w next Q := by
  obtain ⟨nt,tmps,objs,nx,df,wr,di,mv⟩ := s
  unfold stepU at h
  simp only at h
  have hr' := wk_freezeL (P := P) (cx := cx) (toFrz τ κ o.op tmps objs) _ a w hr
  revert h hr'
  generalize freezeL (toFrz τ κ o.op tmps objs) ⟨nt,tmps,objs,nx,df,wr,di,mv⟩ = s1
  obtain ⟨nt,tmps,objs,nx,df,wr,di,mv⟩ := s1
  rintro h ⟨E,rfl,r1⟩
  simp only at h
  split at h
  · cases h
  · rename_i ob' v ed he
    split at h
    · cases h
    · rename_i hed
      revert h
      generalize hs2 : (St.mk nt tmps objs nx df wr di mv).edit ed = s2
      obtain ⟨nt2,tmps2,objs2,nx2,df2,wr2,di2,mv2⟩ := s2
      intro h
      simp only at h
      split at h
      · cases h
      · rename_i s3 hs3
        cases h
        refine effQ_did hτ hκ he (fun _ _ h => h) ho r1.good (r1.fresh nx (Nat.le_refl _)) (fun x _ => evV_rep r1.rep x) _ Q (fun E' u k1 k2 kd k3 => hn _ _ ⟨E',rfl,?_⟩)
        rw [← hs2] at hs3
        exact RelE.setT (RelE.edit r1 hed kd k1 k2) hs3 k3
theorem Inv.stepU {dst : Option Nat} {op : Op} {s s' : St} {ob : Option Prop} (h : stepU τ κ dst op s = some (ob,s')) : Inv s s' := by
  obtain ⟨nt,tmps,objs,nx,df,wr,di,mv⟩ := s
  unfold YtldikbpclaeajaaGreatDoor.stepU at h
  simp only at h
  have hi := Inv.freezeL (toFrz τ κ op tmps objs) ⟨nt,tmps,objs,nx,df,wr,di,mv⟩
  revert h hi
  generalize YtldikbpclaeajaaGreatDoor.freezeL (toFrz τ κ op tmps objs) ⟨nt,tmps,objs,nx,df,wr,di,mv⟩ = s1
  obtain ⟨nt,tmps,objs,nx,df,wr,di,mv⟩ := s1
  intro h hi
  simp only at h
  split at h
  · cases h
  · rename_i ob' v ed _
    split at h
    · cases h
    · revert h
      generalize hs2 : (St.mk nt tmps objs nx df wr di mv).edit ed = s2
      have hj := Inv.edit (St.mk nt tmps objs nx df wr di mv) ed
      rw [hs2] at hj
      obtain ⟨nt2,tmps2,objs2,nx2,df2,wr2,di2,mv2⟩ := s2
      intro h
      simp only at h
      split at h
      · cases h
      · rename_i s3 hs3
        cases h
        exact (hi.trans hj).trans (Inv.setT hs3)
theorem wanted_ok {E : Env} {ops : Array Oper} {o : Oper} {j gd : Nat} {want g : Bool} {v : V} {a : Act} (hg : o.guard = some (j, want)) (hgd : gdOf ops.toList j = some gd) (hv : guardOf want v = some g) (rg : Rep P E v (a.tmps.getD gd undef)) :
    Region.wanted o (yielded ops a.tmps) = g := by
  have hgd' : (ops[j]?).bind (·.dst) = some gd := by
    unfold gdOf at hgd
    split at hgd
    · rename_i h;cases hgd
      rw [Array.getElem?_toList] at h
      rw [h];rfl
    · cases hgd
  have hy : yielded ops a.tmps j = match a.tmps[gd]? with | some (.bool b) => some b | _ => none := by
    unfold yielded;rw [hgd'];rfl
  simp only [Region.wanted,hg,hy]
  have hget : a.tmps.getD gd undef = (a.tmps[gd]?).getD undef := by rw [Array.getD_eq_getD_getElem?]
  rw [hget] at rg
  unfold guardOf at hv
  split at hv
  · rename_i b
    have := rg.bool_inv
    cases hq : a.tmps[gd]? with
    | none => rw [hq] at this;cases this
    | some c =>
      rw [hq] at this;simp at this;subst this
      cases b <;> cases want <;> cases hv <;> rfl
  · rename_i q b
    cases rg with
    | when k1 k2 =>
      cases q with
      | true =>
        have := (k1 rfl).bool_inv
        cases hq : a.tmps[gd]? with
        | none => rw [hq] at this;cases this
        | some c =>
          rw [hq] at this;simp at this;subst this
          cases b <;> cases want <;> cases hv <;> rfl
      | false =>
        have := k2 rfl
        cases hq : a.tmps[gd]? with
        | none => cases want <;> cases hv <;> rfl
        | some c => rw [hq] at this;simp at this;subst this;cases want <;> cases hv <;> rfl
  · cases hv
theorem stepG_ok (hτ : TabOk P τ) (hκ : ConsOk P κ) {r : Option Nat} {cx : Cx} {o : Oper} {s s' : St} {ob : Option Prop} {g : Bool} {a : Act} {w : World} (h : stepG τ κ o.dst o.op g s = some (ob, s')) (ho : okP ob) (hr : Rel P cx s a w)
    {next : Act → World → Prop} {Q : Post} (hn : ∀ a' w',Rel P cx s' a' w' → next a' w') : (g = true → o.wpIn (fz r) 0 P a w next Q) ∧ (g = false → next (a.put o.dst undef) w) := by
  obtain ⟨nt,tmps,objs,nx,df,wr,di,mv⟩ := s
  unfold stepG at h
  simp only at h
  split at h
  · rename_i ob' v he
    split at h
    · rename_i s3 hs3
      cases h
      obtain ⟨E,rfl,r1⟩ := hr
      refine ⟨fun hg => ?_,fun hg => ?_⟩
      · obtain ⟨k0,kc⟩ := guardOb_inv ho hg
        refine effQ_did hτ hκ he (fun _ _ h => h) k0 r1.good (r1.fresh nx (Nat.le_refl _)) (fun x hx => bareP_rep hx (evV_rep r1.rep x) kc) _ Q (fun E' u k1 k2 kd k3 => hn _ _ ⟨E',rfl,?_⟩)
        exact RelE.setT (RelE.edit (ed := none) r1 rfl kd k1 k2) hs3 (.when (fun _ => k3) (fun e => by rw [hg] at e;cases e))
      · exact hn _ _ ⟨E,rfl,RelE.setT r1 hs3 (.when (fun e => by rw [hg] at e;cases e) (fun _ => rfl))⟩
    · cases h
  · cases h
theorem Inv.stepG {dst : Option Nat} {op : Op} {g : Bool} {s s' : St} {ob : Option Prop} (h : stepG τ κ dst op g s = some (ob,s')) : Inv s s' := by
  obtain ⟨nt,tmps,objs,nx,df,wr,di,mv⟩ := s
  unfold YtldikbpclaeajaaGreatDoor.stepG at h
  simp only at h
  split at h
  · split at h
    · rename_i hs;cases h;exact Inv.setT hs
    · cases h
  · cases h
end Go.Proofs.YtldikbpclaeajaaGreatDoor
namespace Go.Proofs.YtldikbpclaeajaaGreatDoor
open Go
set_option linter.unusedVariables false
variable {P : Program} {τ : TyTab} {κ : ConTab}
def andO (ob : Option Prop) (k : Prop) : Prop := match ob with
  | none => k
  | some p => p ∧ k
theorem andO_inv {ob : Option Prop} {k : Prop} (h : andO ob k) : okP ob ∧ k := by
  cases ob with
  | none => exact ⟨trivial,h⟩
  | some p => exact h
def memN (n : Nat) : List Nat → Bool
  | [] => false
  | m :: l => match Nat.beq m n with
    | true => true
    | false => memN n l
theorem memN_iff {n : Nat} : ∀ {l : List Nat},memN n l = true ↔ n ∈ l
  | [] => by simp [memN]
  | m :: l => by
    simp only [memN,List.mem_cons]
    split
    · rename_i h;exact ⟨fun _ => .inl (Nat.eq_of_beq_eq_true h).symm,fun _ => rfl⟩
    · rename_i h
      rw [memN_iff (l := l)]
      exact ⟨.inr,fun h' => h'.elim (fun e => absurd e.symm (Nat.ne_of_beq_eq_false h)) id⟩
abbrev XT := Oper → St → (St → Prop) → Prop
def XOk (P : Program) (r : Option Nat) (cx : Cx) (X : XT) : Prop := ∀ (o : Oper) (s : St) (k : St → Prop) (a : Act) (w : World) (next : Act → World → Prop) (Q : Post),o.guard = none → X o s k → Rel P cx s a w →
  (∀ s' a' w',Inv s s' → k s' → Rel P cx s' a' w' → next a' w') → o.wpIn (fz r) 0 P a w next Q
def opsW (τ : TyTab) (κ : ConTab) (X : XT) (ops : List Oper) : List Oper → List Nat → St → (St → Prop) → Prop
  | [],_,s,k => k s
  | ⟨dst,op,ty,po,af,guard⟩ :: l,kn,s,k => match guard with
    | none => match stepU τ κ dst op s with
      | some (ob,s') => andO ob (opsW τ κ X ops l kn s' k)
      | none => X ⟨dst,op,ty,po,af,none⟩ s (fun s' => opsW τ κ X ops l kn s' k)
    | some (j,want) => match gdOf ops j with
      | none => False
      | some gd => match look gd s.tmps with
        | v => match guardOf want v with
          | none => False
          | some g => match memN j kn with
            | true => cond g (match stepU τ κ dst op s with
                | some (ob,s') => andO ob (opsW τ κ X ops l kn s' k)
                | none => X ⟨dst,op,ty,po,af,none⟩ s (fun s' => opsW τ κ X ops l kn s' k))
              (match s.setT dst .any with
                | some s' => opsW τ κ X ops l kn s' k
                | none => False)
            | false => match stepG τ κ dst op g s with
              | some (ob,s') => andO ob (opsW τ κ X ops l kn s' k)
              | none => match v with
                | .d .bool b => cond g (match s.setT (some gd) (.d .bool want) with
                    | some s1 => match stepU τ κ dst op s1 with
                      | some (ob,s') => andO ob (opsW τ κ X ops l (j :: kn) s' k)
                      | none => X ⟨dst,op,ty,po,af,none⟩ s1 (fun s' => opsW τ κ X ops l (j :: kn) s' k)
                    | none => False)
                  (match s.setT (some gd) (.d .bool (!want)) with
                    | some s1 => match s1.setT dst .any with
                      | some s' => opsW τ κ X ops l (j :: kn) s' k
                      | none => False
                    | none => False)
                | _ => False
theorem wpIn_guard {F : Fence} {n : Nat} {o : Oper} {g : Option (Nat × Bool)} {a : Act} {w : World} {next : Act → World → Prop} {Q : Post} (h : Oper.wpIn F n P { o with guard := g } a w next Q) : o.wpIn F n P a w next Q := h
theorem Rel.setT_same {cx : Cx} {s s' : St} {a : Act} {w : World} {d : Nat} {v : V} (hr : Rel P cx s a w) (h : s.setT (some d) v = some s') (hv : ∀ E,RelE P cx s a E → Rep P E v (a.tmps.getD d undef)) : Rel P cx s' a w := by
  obtain ⟨E,rfl,r⟩ := hr
  refine ⟨E,rfl,?_⟩
  have := RelE.setT r h (hv E r)
  have hd : d < a.tmps.size := by
    unfold St.setT at h
    split at h
    · rename_i he;cases he
    · rename_i d' he;cases he
      split at h
      · rename_i hlt;have h0 : d < s.nt := Nat.le_of_ble_eq_true hlt;have h1 := r.size;omega
      · cases h
  have e : a.put (some d) (a.tmps.getD d undef) = a := by
    obtain ⟨t,ds⟩ := a
    simp only [Act.put]
    congr 1
    apply Array.ext (by simp)
    intro i h1 h2
    rw [Array.getElem_setIfInBounds]
    split
    · rename_i e;subst e;rfl
    · rfl
  rwa [e] at this
theorem opsW_ok (hτ : TabOk P τ) (hκ : ConsOk P κ) {r : Option Nat} {cx : Cx} {X : XT} (hX : XOk P r cx X) {ops : Array Oper} {Q : Post} : ∀ {l : List Oper} {is : List Nat} {kn : List Nat} {s : St} {k : St → Prop} {a : Act} {w : World},
    l.map some = is.map (fun i => ops[i]?) → opsW τ κ X ops.toList l kn s k → Rel P cx s a w → (∀ s' a' w',Inv s s' → k s' → Rel P cx s' a' w' → Q .normal a' w') → wpOpsIn (fz r) 0 P ops Q is a w
  | [],[],_,s,k,a,w,_,h,hr,hk => hk s a w (.refl s) h hr
  | [],_ :: _,_,_,_,_,_,h,_,_,_ => by simp at h
  | _ :: _,[],_,_,_,_,_,h,_,_,_ => by simp at h
  | ⟨dst,op,ty,po,af,guard⟩ :: l,i :: is,kn,s,k,a,w,hl,h,hr,hk => by
    simp only [List.map_cons,List.cons.injEq] at hl
    have hi : ops[i]? = some ⟨dst,op,ty,po,af,guard⟩ := hl.1.symm
    have hl' := hl.2
    rw [wpOpsIn_cons]
    unfold wpOpIn
    rw [hi]
    simp only
    have next : ∀ (kn' : List Nat) (s' : St),Inv s s' → opsW τ κ X ops.toList l kn' s' k → ∀ a' w',Rel P cx s' a' w' → wpOpsIn (fz r) 0 P ops Q is a' w' := fun kn' s' hi' h' a' w' hr' =>
      opsW_ok hτ hκ hX hl' h' hr' (fun s'' a'' w'' hj h'' hr'' => hk s'' a'' w'' (hi'.trans hj) h'' hr'')
    have run : ∀ (kn' : List Nat) (s1 : St), Inv s s1 → Rel P cx s1 a w → (match YtldikbpclaeajaaGreatDoor.stepU τ κ dst op s1 with
          | some (ob,s') => andO ob (opsW τ κ X ops.toList l kn' s' k)
          | none => X ⟨dst,op,ty,po,af,none⟩ s1 (fun s' => opsW τ κ X ops.toList l kn' s' k)) →
        Oper.wpIn (fz r) 0 P ⟨dst,op,ty,po,af,guard⟩ a w (wpOpsIn (fz r) 0 P ops Q is) Q := by
      intro kn' s1 hi1 hr1 h1
      split at h1
      · rename_i ob s' hs
        obtain ⟨ho,h2⟩ := andO_inv h1
        exact stepU_ok (o := ⟨dst,op,ty,po,af,guard⟩) hτ hκ hs ho hr1 (next kn' s' (hi1.trans (Inv.stepU hs)) h2)
      · exact wpIn_guard (g := none) (hX ⟨dst,op,ty,po,af,none⟩ s1 _ a w _ Q rfl h1 hr1 (fun s' a' w' hj h2 hr2 => next kn' s' (hi1.trans hj) h2 a' w' hr2))
    cases guard with
    | none =>
      simp only [opsW] at h
      rw [if_pos (by simp [Region.wanted])]
      exact run kn s (.refl s) hr h
    | some jw =>
      obtain ⟨j,want⟩ := jw
      simp only [opsW] at h
      split at h
      · exact h.elim
      · rename_i gd hgd
        split at h
        · exact h.elim
        · rename_i g hg
          have hw : Region.wanted ⟨dst,op,ty,po,af,some (j,want)⟩ (yielded ops a.tmps) = g := by
            obtain ⟨E,_,r1⟩ := id hr
            exact wanted_ok rfl hgd hg (r1.rep gd)
          rw [hw]
          have skip : ∀ (kn' : List Nat) (s1 s' : St),Inv s s1 → Rel P cx s1 a w → s1.setT dst .any = some s' → opsW τ κ X ops.toList l kn' s' k → (∀ f,Oper.about P w a.eval ⟨dst,op,ty,po,af,some (j,want)⟩ = some f → (fz r).fn f) ∧ wpOpsIn (fz r) 0 P ops Q is (a.put dst undef) w :=
            fun kn' s1 s' hi1 hr1 hs h1 => ⟨fun _ _ => trivial,by
              obtain ⟨E,rfl,r1⟩ := hr1
              exact next kn' s' (hi1.trans (Inv.setT hs)) h1 _ _ ⟨E,rfl,RelE.setT r1 hs (.any _)⟩⟩
          split at h
          · cases g with
            | true => exact run kn s (.refl s) hr h
            | false =>
              simp only [cond_false] at h
              rw [if_neg (by simp)]
              split at h
              · rename_i s' hs;exact skip kn s s' (.refl s) hr hs h
              · exact h.elim
          · split at h
            · rename_i ob s' hs
              obtain ⟨ho,h2⟩ := andO_inv h
              have := stepG_ok (o := ⟨dst,op,ty,po,af,some (j,want)⟩) (r := r) (Q := Q) hτ hκ hs ho hr (next kn s' (Inv.stepG hs) h2)
              cases g with
              | true => exact this.1 rfl
              | false => rw [if_neg (by simp)];exact ⟨fun _ _ => trivial,this.2 rfl⟩
            · split at h
              · rename_i b hb
                have hgb : g = true ∧ b = want ∨ g = false ∧ b = !want := by
                  rw [hb] at hg
                  simp only [guardOf] at hg
                  cases want <;> cases b <;> cases hg <;> simp
                cases g with
                | true =>
                  simp only [cond_true] at h
                  have e : b = want := by simpa using hgb
                  split at h
                  · rename_i s1 hs1
                    exact run (j :: kn) s1 (Inv.setT hs1) (hr.setT_same hs1 (fun E r1 => by have := r1.rep gd;rw [hb,e] at this;exact this)) h
                  · exact h.elim
                | false =>
                  simp only [cond_false] at h
                  have e : b = !want := by simpa using hgb
                  rw [if_neg (by simp)]
                  split at h
                  · rename_i s1 hs1
                    split at h
                    · rename_i s' hs'
                      exact skip (j :: kn) s1 s' (Inv.setT hs1) (hr.setT_same hs1 (fun E r1 => by have := r1.rep gd;rw [hb,e] at this;exact this)) hs' h
                    · exact h.elim
                  · exact h.elim
              · exact h.elim
end Go.Proofs.YtldikbpclaeajaaGreatDoor
namespace Go.Proofs.YtldikbpclaeajaaGreatDoor
open Go
set_option linter.unusedVariables false
variable {P : Program} {τ : TyTab} {κ : ConTab}
def Env.cut (E : Env) (n : Nat) : Env := ⟨E.w,E.S,fun l => if l < n then E.loc l else none⟩
theorem cut_loc {E : Env} {n l : Nat} {L : Loc} (h : E.loc l = some L) (hl : l < n) : (E.cut n).loc l = some L := by simp only [Env.cut,if_pos hl,h]
def CutOk (P : Program) (n : Nat) (v : V) : Prop := ∀ E c,Rep P E v c → Rep P (E.cut n) v c
theorem CutOk.of {E0 : Env} {n : Nat} (hf : ∀ l,n ≤ l → E0.loc l = none) {v : V} {c0 : Value} (r : Rep P E0 v c0) : CutOk P n v := by
  have hlt : ∀ {l L},E0.loc l = some L → l < n := fun {l L} h => Nat.lt_of_not_le fun hle => by rw [hf l hle] at h;cases h
  induction r with
  | any v => exact fun E c _ => .any c
  | d hc => intro E c r;cases r with | d h => exact .d h
  | nilp => intro E c r;cases r;exact .nilp
  | nilf => intro E c r;cases r;exact .nilf
  | nils a => intro E c r;cases r with | nils a => exact .nils a
  | nilm => intro E c r;cases r;exact .nilm
  | fn h1 h2 _ _ i1 i2 => intro E c r;cases r with | fn k1 k2 k3 k4 => exact .fn k1 k2 (fun j hj => i1 j hj _ _ (k3 j hj)) (fun j hj => i2 j hj _ _ (k4 j hj))
  | agg h1 _ i1 => intro E c r;cases r with | agg k1 k2 => exact .agg k1 (fun j hj => i1 j hj _ _ (k2 j hj))
  | tup h1 _ i1 => intro E c r;cases r with | tup k1 k2 => exact .tup k1 (fun j hj => i1 j hj _ _ (k2 j hj))
  | er c hb hc _ i => intro E c r;cases r with | er c' k1 k2 k3 => exact .er c' k1 k2 (fun j hj => i j hj _ _ (k3 j hj))
  | ref k => intro E c r;cases r with | ref h => exact .ref (cut_loc h (hlt k))
  | rref k => intro E c r;cases r with | rref h => exact .rref (cut_loc h (hlt k))
  | osl k => intro E c r;cases r with | osl h => exact .osl (cut_loc h (hlt k))
  | osp k kp => intro E c r;cases r with | osp h hp => exact .osp (cut_loc h (hlt k)) hp
  | map k => intro E c r;cases r with | map h => exact .map (cut_loc h (hlt k))
  | when h1 h2 i1 => intro E c r;cases r with | when k1 k2 => exact .when (fun e => i1 e _ _ (k1 e)) k2
  | opt h1 h2 i1 => intro E c r;cases r with | opt k1 k2 => exact .opt (fun e => i1 e _ _ (k1 e)) k2
  | pf k => intro E c r;cases r with | pf h => exact .pf h
  | yl k => intro E c r;cases r with | yl h => exact .yl (cut_loc h (hlt k))
  | bsl k => intro E c r;cases r with | bsl h => exact .bsl (cut_loc h (hlt k))
theorem cutOk_any (n : Nat) : CutOk P n .any := fun _ _ _ => .any _
def OCut (P : Program) (n : Nat) (o : Obj) : Prop := ∀ E L,ObjAt P E L o → ObjAt P (E.cut n) L o
theorem slot_cut {E0 : Env} {n : Nat} (hf : ∀ l,n ≤ l → E0.loc l = none) {t : Ty} {xs : List (List t.den)} {s : List V} {m : Nat} {L0 : Loc} (h : ObjAt P E0 L0 (.vrow t xs s m)) : ∀ j,j < s.length → CutOk P n (s.getD j .any) := by
  intro j hj
  obtain ⟨h1,h2,h3,e',cs',h4,h5 | ⟨cur',h5,h6,h7,h8,h9,h10,h11,h12,h13⟩⟩ := h
  · rw [h5.2] at h3;omega
  · exact CutOk.of hf (h12 j hj)
theorem OCut.vrow {n : Nat} {t : Ty} {xs : List (List t.den)} {s : List V} {m : Nat} (h : ∀ j,j < s.length → CutOk P n (s.getD j .any)) : OCut P n (.vrow t xs s m) := by
  intro E L k
  obtain ⟨k1,k2,k3,e,cs,k4,k5⟩ := k
  refine ⟨k1,k2,k3,e,cs,k4,?_⟩
  rcases k5 with k5 | ⟨cur,k5,k6,k7,k8,k9,k10,k11,k12,k13⟩
  · exact .inl k5
  · exact .inr ⟨cur,k5,k6,k7,k8,k9,k10,k11,fun j hj => h j hj _ _ (k12 j hj),k13⟩
theorem OCut.of {E0 : Env} {n : Nat} (hf : ∀ l,n ≤ l → E0.loc l = none) {o : Obj} {L0 : Loc} (h : ObjAt P E0 L0 o) : OCut P n o := by
  intro E L k
  cases o with
  | dead => trivial
  | box cs =>
    obtain ⟨_,_,_,_,h3⟩ := h
    obtain ⟨vals,t,k1,k2,k3⟩ := k
    exact ⟨vals,t,k1,k2,fun j hj => CutOk.of hf (h3 j hj) _ _ (k3 j hj)⟩
  | row t xs => exact k
  | vrow t xs s m => exact OCut.vrow (slot_cut hf h) E L k
  | smap t m => exact k
  | imap t m => exact k
  | lrec nt tmps ps a b st j =>
    obtain ⟨_,_,_,h3,_⟩ := h
    obtain ⟨r,k1,k2,k3,k4⟩ := k
    exact ⟨r,k1,k2,fun t => CutOk.of hf (h3 t) _ _ (k3 t),k4⟩
  | dfb => exact k
theorem DfRel.cut {E0 E : Env} {n : Nat} (hf : ∀ l,n ≤ l → E0.loc l = none) : ∀ {df : List Df} {d0 ds : List Deferred},DfRel P E0 df d0 → DfRel P E df ds → DfRel P (E.cut n) df ds
  | [],_,_,_,h => h
  | .mark l :: r,_,_,⟨_,_,_,⟨K0,h2,_⟩,h3⟩,⟨L,rest,k1,⟨K,k2,k3⟩,k4⟩ => ⟨L,rest,k1,⟨K,cut_loc k2 (Nat.lt_of_not_le fun hle => by rw [hf l hle] at h2;cases h2),k3⟩,h3.cut hf k4⟩
  | .fn g cs :: r,_,_,⟨_,_,_,h2,h3⟩,⟨q,rest,k1,k2,k3⟩ => ⟨q,rest,k1,⟨k2.1,fun j hj => CutOk.of hf (h2.2 j hj) _ _ (k2.2 j hj)⟩,h3.cut hf k3⟩
inductive Vy where
  | t (t : Nat) (T : Ty)
  | cell (l j : Nat) (T : Ty)
  | row (l : Nat) (T : Ty)
  | vrow (l : Nat) (T : Ty) (k : Option Nat)
  | smap (l : Nat) (T : Ty)
  | imap (l : Nat) (T : Ty)
@[reducible] def Vy.den : Vy → Type
  | .t _ T => T.den
  | .cell _ _ T => T.den
  | .row _ T => List T.den
  | .vrow _ T _ => List (List T.den) × Nat
  | .smap _ T => ByteArray → Option T.den
  | .imap _ T => Int → Option T.den
@[reducible] def denVs : List Vy → Type
  | [] => Unit
  | [v] => v.den
  | v :: u :: l => v.den × denVs (u :: l)
structure LA where
  vs : List Vy
  es : List Nat
  an : List Nat
  dd : List Nat
def find1T (t : Nat) : (v : Vy) → v.den → Option V
  | .t u T,y => match Nat.beq u t with
    | true => some (argV T y)
    | false => none
  | _,_ => none
def find1C (l j : Nat) : (v : Vy) → v.den → Option V
  | .cell k i T,y => match Nat.beq k l with
    | true => match Nat.beq i j with
      | true => some (argV T y)
      | false => none
    | false => none
  | _,_ => none
def slotV : Option Nat → List V
  | none => []
  | some k => [.osl k]
def find1O (l : Nat) : (v : Vy) → v.den → Option Obj
  | .row k T,y => match Nat.beq k l with
    | true => some (.row T y)
    | false => none
  | .vrow k T so,y => match Nat.beq k l with
    | true => some (.vrow T y.1 (slotV so) y.2)
    | false => none
  | .smap k T,y => match Nat.beq k l with
    | true => some (.smap T y)
    | false => none
  | .imap k T,y => match Nat.beq k l with
    | true => some (.imap T y)
    | false => none
  | _,_ => none
def findV {α : Type} (f : (v : Vy) → v.den → Option α) : (vs : List Vy) → denVs vs → Option α
  | [],_ => none
  | [v],y => f v y
  | v :: u :: l,y => match f v y.1 with
    | some r => some r
    | none => findV f (u :: l) y.2
def Vy.key : Vy → Option Nat
  | .t _ _ => none
  | .cell l _ _ | .row l _ | .vrow l _ _ | .smap l _ | .imap l _ => some l
def keysV : List Vy → List Nat
  | [] => []
  | v :: r => match v.key with
    | some l => match memN l (keysV r) with
      | true => keysV r
      | false => l :: keysV r
    | none => keysV r
def newCells (vs : List Vy) (y : denVs vs) (l : Nat) : Nat → List V → List V
  | _,[] => []
  | j,v :: r => (match findV (find1C l j) vs y with
    | some u => u
    | none => v) :: newCells vs y l (j + 1) r
def newObj (vs : List Vy) (dd : List Nat) (y : denVs vs) (l : Nat) (o : Obj) : Obj := match memN l dd with
  | true => .dead
  | false => match findV (find1O l) vs y with
    | some o' => o'
    | none => match o with
      | .box cs => .box (newCells vs y l 0 cs)
      | o => o
def headO (vs : List Vy) (dd : List Nat) (y : denVs vs) (objs : Objs) : List Nat → Objs
  | [] => objs
  | l :: ks => match getO l objs with
    | some o => (l,newObj vs dd y l o) :: headO vs dd y objs ks
    | none => headO vs dd y objs ks
def anT : List Nat → List (Nat × V) → List (Nat × V)
  | [],tm => tm
  | t :: r,tm => (t,.any) :: anT r tm
def headT : (vs : List Vy) → denVs vs → List (Nat × V) → List (Nat × V)
  | [],_,tm => tm
  | [v],y,tm => match v,y with
    | .t t T,y => (t,argV T y) :: tm
    | _,_ => tm
  | v :: u :: l,y,tm => match v,y with
    | .t t T,y => (t,argV T y.1) :: headT (u :: l) y.2 tm
    | _,y => headT (u :: l) y.2 tm
def LA.keys (la : LA) : List Nat := keysV la.vs ++ la.dd
def LA.tmps : List Vy → List Nat
  | [] => []
  | .t t _ :: r => t :: LA.tmps r
  | _ :: r => LA.tmps r
def head (la : LA) (s : St) (y : denVs la.vs) : St := match la,s,y with
  | ⟨vs,es,an,dd⟩,⟨nt,tmps,objs,nx,df,wr,di,mv⟩,y => match keysV vs ++ dd with
    | ks => ⟨nt,anT an (headT vs y tmps),headO vs dd y objs ks,nx,df,[],[],ks ++ mv⟩
mutual
def V.eqb : V → V → Bool
  | .any,.any => true
  | .nilp,.nilp => true
  | .nilf,.nilf => true
  | .nils,.nils => true
  | .nilm,.nilm => true
  | .fn (.func f) a b,v => match v with
    | .fn (.func g) a' b' => match Nat.beq f g with
      | true => match eqbL a a' with
        | true => eqbL b b'
        | false => false
      | false => false
    | _ => false
  | .agg a,v => match v with
    | .agg b => eqbL a b
    | _ => false
  | .er a,v => match v with
    | .er b => eqbL a b
    | _ => false
  | .ref l o,v => match v with
    | .ref k q => match Nat.beq l k with
      | true => Nat.beq o q
      | false => false
    | _ => false
  | .osl l,v => match v with
    | .osl k => Nat.beq l k
    | _ => false
  | .map l,v => match v with
    | .map k => Nat.beq l k
    | _ => false
  | .yl l,v => match v with
    | .yl k => Nat.beq l k
    | _ => false
  | .bsl l n,v => match v with
    | .bsl k m => match Nat.beq l k with
      | true => Nat.beq n m
      | false => false
    | _ => false
  | _,_ => false
def eqbL : List V → List V → Bool
  | [],[] => true
  | v :: l,u :: m => match V.eqb v u with
    | true => eqbL l m
    | false => false
  | _,_ => false
end
mutual
theorem eqb_eq : ∀ {a b : V},a.eqb b = true → a = b
  | .any,b,h => by cases b <;> first | rfl | (simp [V.eqb] at h)
  | .nilp,b,h => by cases b <;> first | rfl | (simp [V.eqb] at h)
  | .nilf,b,h => by cases b <;> first | rfl | (simp [V.eqb] at h)
  | .nils,b,h => by cases b <;> first | rfl | (simp [V.eqb] at h)
  | .nilm,b,h => by cases b <;> first | rfl | (simp [V.eqb] at h)
  | .fn f a b,v,h => by
    cases f <;> try (simp [V.eqb] at h;done)
    cases v <;> try (simp [V.eqb] at h;done)
    rename_i g a' b'
    cases g <;> try (simp [V.eqb] at h;done)
    simp only [V.eqb] at h
    split at h
    · rename_i h1
      split at h
      · rename_i h2
        rw [Nat.eq_of_beq_eq_true h1,eqbL_eq h2,eqbL_eq h]
      · cases h
    · cases h
  | .agg a,v,h => by
    cases v <;> simp only [V.eqb] at h <;> try (cases h;done)
    rw [eqbL_eq h]
  | .er a,v,h => by
    cases v <;> simp only [V.eqb] at h <;> try (cases h;done)
    rw [eqbL_eq h]
  | .ref l o,v,h => by
    cases v <;> simp only [V.eqb] at h <;> try (cases h;done)
    split at h
    · rename_i h1;rw [Nat.eq_of_beq_eq_true h1,Nat.eq_of_beq_eq_true h]
    · cases h
  | .osl l,v,h => by
    cases v <;> simp only [V.eqb] at h <;> try (cases h;done)
    rw [Nat.eq_of_beq_eq_true h]
  | .map l,v,h => by
    cases v <;> simp only [V.eqb] at h <;> try (cases h;done)
    rw [Nat.eq_of_beq_eq_true h]
  | .yl l,v,h => by
    cases v <;> simp only [V.eqb] at h <;> try (cases h;done)
    rw [Nat.eq_of_beq_eq_true h]
  | .bsl l n,v,h => by
    cases v <;> simp only [V.eqb] at h <;> try (cases h;done)
    split at h
    · rename_i h1;rw [Nat.eq_of_beq_eq_true h1,Nat.eq_of_beq_eq_true h]
    · cases h
  | .d _ _,_,h => by simp [V.eqb] at h
  | .tup _,_,h => by simp [V.eqb] at h
  | .rref ..,_,h => by simp [V.eqb] at h
  | .osp ..,_,h => by simp [V.eqb] at h
  | .when ..,_,h => by simp [V.eqb] at h
  | .opt ..,_,h => by simp [V.eqb] at h
  | .pf ..,_,h => by simp [V.eqb] at h
theorem eqbL_eq : ∀ {a b : List V},eqbL a b = true → a = b
  | [],[],_ => rfl
  | v :: l,u :: m,h => by
    simp only [eqbL] at h
    split at h
    · rename_i h1;rw [eqb_eq h1,eqbL_eq h]
    · cases h
  | [],_ :: _,h => by simp [eqbL] at h
  | _ :: _,[],h => by simp [eqbL] at h
end
def get1 (s : St) : (v : Vy) → Option v.den
  | .t t T => getD T (look t s.tmps)
  | .cell l j T => match getO l s.objs with
    | some (.box cs) => getD T (cs.getD j .any)
    | _ => none
  | .row l T => match getO l s.objs with
    | some (.row T' xs) => if h : T' = T then some (h ▸ xs) else none
    | _ => none
  | .vrow l T so => match getO l s.objs with
    | some (.vrow T' xs cs m) => match eqbL cs (slotV so) with
      | true => if h : T' = T then some (h ▸ xs,m) else none
      | false => none
    | _ => none
  | .smap l T => match getO l s.objs with
    | some (.smap T' m) => if h : T' = T then some (h ▸ m) else none
    | _ => none
  | .imap l T => match getO l s.objs with
    | some (.imap T' m) => if h : T' = T then some (h ▸ m) else none
    | _ => none
def getVs (s : St) : (vs : List Vy) → Option (denVs vs)
  | [] => some ()
  | [v] => get1 s v
  | v :: u :: l => match get1 s v with
    | some x => match getVs s (u :: l) with
      | some y => some (x,y)
      | none => none
    | none => none
def frzT (t : Nat) : Nat → St → St
  | 0,s => s
  | n + 1,s => match (look t s.tmps).fk with
    | none => s
    | some l => match s.freeze l with
      | ⟨nt,tmps,objs,nx,df,wr,di,mv⟩ => frzT t n ⟨nt,tmps,objs,nx,df,wr,di,mv⟩
def frzC (l j : Nat) : Nat → St → St
  | 0,s => s
  | n + 1,s => match getO l s.objs with
    | some (.box cs) => match (cs.getD j .any).fk with
      | none => s
      | some k => match s.freeze k with
        | ⟨nt,tmps,objs,nx,df,wr,di,mv⟩ => frzC l j n ⟨nt,tmps,objs,nx,df,wr,di,mv⟩
    | _ => s
def frzVs : List Vy → St → St
  | [],s => s
  | .t t _ :: r,s => frzVs r (frzT t 5 s)
  | .cell l j _ :: r,s => frzVs r (frzC l j 5 s)
  | _ :: r,s => frzVs r s
def isCell (l j : Nat) : List Vy → Bool
  | [] => false
  | .cell k i _ :: r => match Nat.beq k l with
    | true => match Nat.beq i j with
      | true => true
      | false => isCell l j r
    | false => isCell l j r
  | _ :: r => isCell l j r
def isObj (l : Nat) : List Vy → Bool
  | [] => false
  | .row k _ :: r | .vrow k _ _ :: r | .smap k _ :: r | .imap k _ :: r => match Nat.beq k l with
    | true => true
    | false => isObj l r
  | _ :: r => isObj l r
def cellsOk (vs : List Vy) (l : Nat) : Nat → List V → List V → Bool
  | _,[],[] => true
  | j,a :: l1,b :: l2 => match isCell l j vs with
    | true => cellsOk vs l (j + 1) l1 l2
    | false => match a.eqb b with
      | true => cellsOk vs l (j + 1) l1 l2
      | false => false
  | _,_,_ => false
def keyOk (vs : List Vy) (dd : List Nat) (o0 o1 : Objs) (l : Nat) : Bool := match getO l o1 with
  | none => false
  | some p => match getO l o0 with
    | none => false
    | some q => match memN l dd with
      | true => true
      | false => match isObj l vs with
        | true => match p with
          | .vrow _ _ c1 _ => match q with
            | .vrow _ _ c0 _ => eqbL c1 c0
            | _ => false
          | _ => true
        | false => match p with
          | .box cs1 => match q with
            | .box cs => cellsOk vs l 0 cs cs1
            | _ => false
          | _ => false
def keysOk (vs : List Vy) (dd : List Nat) (o0 o1 : Objs) : List Nat → Bool
  | [] => true
  | l :: r => match keyOk vs dd o0 o1 l with
    | true => keysOk vs dd o0 o1 r
    | false => false
def wrOk (la : LA) (t0 t1 : List (Nat × V)) : List Nat → Bool
  | [] => true
  | t :: r => match memN t la.an with
    | true => wrOk la t0 t1 r
    | false => match memN t (LA.tmps la.vs) with
      | true => wrOk la t0 t1 r
      | false => match memN t la.es with
        | true => match (look t t0).eqb (look t t1) with
          | true => wrOk la t0 t1 r
          | false => false
        | false => false
def subN (ks : List Nat) (nx : Nat) : List Nat → Bool
  | [] => true
  | l :: r => match Nat.ble nx l with
    | true => subN ks nx r
    | false => match memN l ks with
      | true => subN ks nx r
      | false => false
def diOk (ks : List Nat) (nx : Nat) (o0 o1 : Objs) : List Nat → Bool
  | [] => true
  | l :: r => match Nat.ble nx l with
    | true => diOk ks nx o0 o1 r
    | false => match memN l ks with
      | true => diOk ks nx o0 o1 r
      | false => match getO l o0 with
        | some (.box cs) => match getO l o1 with
          | some (.box cs1) => match eqbL cs cs1 with
            | true => diOk ks nx o0 o1 r
            | false => false
          | _ => false
        | _ => false
def back (la : LA) (s0 s : St) : Option (denVs la.vs) := match frzVs la.vs s with
  | s1 => match getVs s1 la.vs with
    | none => none
    | some y => match wrOk la s0.tmps s1.tmps s1.wr with
      | false => none
      | true => match memN s0.nt s1.wr with
        | true => none
        | false => match diOk la.keys s0.nx s0.objs s1.objs s1.di with
          | false => none
          | true => match subN (la.keys ++ s0.mv) s0.nx s1.mv with
            | false => none
            | true => match keysOk la.vs la.dd s0.objs s1.objs la.keys with
              | false => none
              | true => some y
end Go.Proofs.YtldikbpclaeajaaGreatDoor
namespace Go.Proofs.YtldikbpclaeajaaGreatDoor
open Go
set_option linter.unusedVariables false
variable {P : Program} {τ : TyTab} {κ : ConTab}
theorem argV_any {E : Env} {T : Ty} {x : T.den} {lo : Nat → Option Loc} {c : Value} (h : ArgAt E.w E.S T x c) : Rep P ⟨E.w,E.S,lo⟩ (argV T x) c := arg_rep h
theorem headT_rep {E : Env} {lo : Nat → Option Loc} {s1 : St} {t : Nat} {c : Value} {tm : List (Nat × V)} (hr : Rep P E (look t s1.tmps) c) : ∀ {vs : List Vy} {y : denVs vs}, getVs s1 vs = some y →
    (t ∉ LA.tmps vs → Rep P ⟨E.w,E.S,lo⟩ (look t tm) c) → Rep P ⟨E.w,E.S,lo⟩ (look t (headT vs y tm)) c
  | [],_,_,h => h (by simp [LA.tmps])
  | [v],y,hy,h => by
    cases v with
    | t u T =>
      simp only [headT,look_cons]
      split
      · rename_i e;subst e;exact argV_any (getD_arg hy hr)
      · rename_i e;exact h (by simp [LA.tmps];exact Ne.symm e)
    | _ => exact h (by simp [LA.tmps])
  | v :: u :: l,y,hy,h => by
    simp only [getVs] at hy
    split at hy
    · rename_i x hx
      split at hy
      · rename_i y' hy'
        cases hy
        have ih := fun h' => headT_rep (E := E) (lo := lo) (tm := tm) hr (vs := u :: l) (y := y') hy' h'
        cases v with
        | t w T =>
          simp only [headT,look_cons]
          split
          · rename_i e;subst e;exact argV_any (getD_arg hx hr)
          · rename_i e;exact ih fun hn => h (by simp only [LA.tmps,List.mem_cons,not_or];exact ⟨Ne.symm e,hn⟩)
        | _ => exact ih h
      · cases hy
    · cases hy
theorem anT_look {t : Nat} {tm : List (Nat × V)} : ∀ an : List Nat,look t (anT an tm) = if t ∈ an then .any else look t tm
  | [] => by simp [anT]
  | u :: r => by
    simp only [anT,look_cons,anT_look r,List.mem_cons]
    by_cases e : u = t
    · simp [e]
    · rw [if_neg e]
      by_cases h : t ∈ r
      · rw [if_pos h,if_pos (.inr h)]
      · rw [if_neg h,if_neg (by rintro (h' | h');exact e h'.symm;exact h h')]
theorem headO_get {vs : List Vy} {dd : List Nat} {y : denVs vs} {objs : Objs} {l : Nat} : ∀ ks : List Nat,getO l (headO vs dd y objs ks) = if l ∈ ks then (getO l objs).map (newObj vs dd y l) else getO l objs
  | [] => by simp [headO]
  | k :: ks => by
    simp only [headO]
    split
    · rename_i o ho
      rw [getO_cons]
      split
      · rename_i e;subst e;simp [ho]
      · rename_i e
        rw [headO_get ks]
        by_cases h : l ∈ ks
        · rw [if_pos h,if_pos (List.mem_cons_of_mem _ h)]
        · rw [if_neg h,if_neg (by simp only [List.mem_cons,not_or];exact ⟨Ne.symm e,h⟩)]
    · rename_i ho
      rw [headO_get ks]
      by_cases h : l ∈ ks
      · rw [if_pos h,if_pos (List.mem_cons_of_mem _ h)]
      · by_cases e : l = k
        · subst e;rw [if_neg h,if_pos List.mem_cons_self,ho];rfl
        · rw [if_neg h,if_neg (by simp only [List.mem_cons,not_or];exact ⟨e,h⟩)]
theorem findV_get {α : Type} {f : (v : Vy) → v.den → Option α} {s1 : St} : ∀ {vs : List Vy} {y : denVs vs} {r : α},getVs s1 vs = some y → findV f vs y = some r → ∃ v x,v ∈ vs ∧ get1 s1 v = some x ∧ f v x = some r
  | [],_,_,_,h => by cases h
  | [v],y,r,hy,h => ⟨v,y,by simp,hy,h⟩
  | v :: u :: l,y,r,hy,h => by
    simp only [getVs] at hy
    split at hy
    · rename_i x hx
      split at hy
      · rename_i y' hy'
        cases hy
        simp only [findV] at h
        split at h
        · rename_i r' hr'
          cases h
          exact ⟨v,x,by simp,hx,hr'⟩
        · obtain ⟨v',x',h1,h2,h3⟩ := findV_get (vs := u :: l) hy' h
          exact ⟨v',x',List.mem_cons_of_mem _ h1,h2,h3⟩
      · cases hy
    · cases hy
theorem find1O_get {s1 : St} {l : Nat} {v : Vy} {x : v.den} {o : Obj} (h1 : get1 s1 v = some x) (h2 : find1O l v x = some o) : getO l s1.objs = some o := by
  cases v with
  | t _ _ => cases h2
  | cell _ _ _ => cases h2
  | row k T =>
    simp only [find1O] at h2
    split at h2
    · rename_i e;cases h2
      have := Nat.eq_of_beq_eq_true e;subst this
      simp only [get1] at h1
      split at h1
      · rename_i T' xs ho
        split at h1
        · rename_i e;subst e;cases h1;exact ho
        · cases h1
      · cases h1
    · cases h2
  | vrow k T so =>
    simp only [find1O] at h2
    split at h2
    · rename_i e;cases h2
      have := Nat.eq_of_beq_eq_true e;subst this
      simp only [get1] at h1
      split at h1
      · rename_i T' xs cs m ho
        split at h1
        · rename_i hc
          split at h1
          · rename_i e;subst e;cases h1;rw [eqbL_eq hc] at ho;exact ho
          · cases h1
        · cases h1
      · cases h1
    · cases h2
  | smap k T =>
    simp only [find1O] at h2
    split at h2
    · rename_i e;cases h2
      have := Nat.eq_of_beq_eq_true e;subst this
      simp only [get1] at h1
      split at h1
      · rename_i T' xs ho
        split at h1
        · rename_i e;subst e;cases h1;exact ho
        · cases h1
      · cases h1
    · cases h2
  | imap k T =>
    simp only [find1O] at h2
    split at h2
    · rename_i e;cases h2
      have := Nat.eq_of_beq_eq_true e;subst this
      simp only [get1] at h1
      split at h1
      · rename_i T' xs ho
        split at h1
        · rename_i e;subst e;cases h1;exact ho
        · cases h1
      · cases h1
    · cases h2
theorem find1C_get {s1 : St} {l j : Nat} {v : Vy} {x : v.den} {u : V} {cs : List V} {E : Env} {c : Value} {lo : Nat → Option Loc} (h1 : get1 s1 v = some x) (h2 : find1C l j v x = some u) (ho : getO l s1.objs = some (.box cs)) (r : Rep P E (cs.getD j .any) c) : Rep P ⟨E.w,E.S,lo⟩ u c := by
  cases v with
  | cell k i T =>
    simp only [find1C] at h2
    split at h2
    · rename_i e1
      split at h2
      · rename_i e2
        cases h2
        have := Nat.eq_of_beq_eq_true e1;subst this
        have := Nat.eq_of_beq_eq_true e2;subst this
        simp only [get1,ho] at h1
        exact argV_any (getD_arg h1 r)
      · cases h2
    · cases h2
  | _ => cases h2
theorem isObj_find {vs : List Vy} {y : denVs vs} {l : Nat} (h : isObj l vs = false) : findV (find1O l) vs y = none := by
  induction vs with
  | nil => rfl
  | cons v r ih =>
    have h1 : ∀ x,find1O l v x = none := fun x => by
      cases v <;> simp only [isObj] at h <;> simp only [find1O]
      all_goals (split at h;cases h;first | rfl | (rename_i e;rw [e]))
    have h2 : isObj l r = false := by
      cases v <;> simp only [isObj] at h <;> first | exact h | (split at h;cases h;exact h)
    cases r with
    | nil => exact h1 y
    | cons u l' =>
      simp only [findV]
      rw [h1]
      exact ih h2
theorem isObj_found {s1 : St} {l : Nat} : ∀ {vs : List Vy} {y : denVs vs},isObj l vs = true → ∃ o,findV (find1O l) vs y = some o
  | [],_,h => by cases h
  | [v],y,h => by
    cases v <;> simp only [isObj] at h <;> try (cases h;done)
    all_goals (split at h <;> try (cases h;done));rename_i e;simp only [findV,find1O,e];exact ⟨_,rfl⟩
  | v :: u :: l',y,h => by
    simp only [findV]
    split
    · exact ⟨_,rfl⟩
    · rename_i hn
      refine isObj_found (s1 := s1) ?_
      cases v <;> simp only [isObj] at h ⊢ <;> first | exact h | skip
      all_goals (split at h;rename_i e;simp only [find1O,e] at hn;cases hn;exact h)
theorem cellsOk_len {vs : List Vy} {l : Nat} : ∀ {j : Nat} {a b : List V},cellsOk vs l j a b = true → a.length = b.length
  | _,[],[],_ => rfl
  | j,a :: l1,b :: l2,h => by
    simp only [cellsOk] at h
    split at h
    · simp [cellsOk_len h]
    · split at h
      · simp [cellsOk_len h]
      · cases h
  | _,[],_ :: _,h => by simp [cellsOk] at h
  | _,_ :: _,[],h => by simp [cellsOk] at h
theorem isCell_found {l j : Nat} : ∀ {vs : List Vy} {y : denVs vs},isCell l j vs = true → ∃ o,findV (find1C l j) vs y = some o
  | [],_,h => by cases h
  | [v],y,h => by
    cases v <;> simp only [isCell] at h <;> try (cases h;done)
    split at h <;> try (cases h;done)
    rename_i e1
    split at h <;> try (cases h;done)
    rename_i e2
    simp only [findV,find1C,e1,e2];exact ⟨_,rfl⟩
  | v :: u :: l',y,h => by
    simp only [findV]
    split
    · exact ⟨_,rfl⟩
    · rename_i hn
      refine isCell_found ?_
      cases v <;> simp only [isCell] at h ⊢ <;> first | exact h | skip
      split at h
      · rename_i e1
        split at h
        · rename_i e2;simp only [find1C,e1,e2] at hn;cases hn
        · exact h
      · exact h
theorem isCell_find {l j : Nat} : ∀ {vs : List Vy} {y : denVs vs},isCell l j vs = false → findV (find1C l j) vs y = none
  | [],_,_ => rfl
  | [v],y,h => by
    cases v <;> simp only [isCell] at h <;> simp only [findV,find1C]
    split at h
    · rename_i e1
      split at h
      · cases h
      · first | rfl | (rename_i e2;rw [e1];simp only;rw [e2])
    · first | rfl | (rename_i e1;rw [e1])
  | v :: u :: l',y,h => by
    have h2 : isCell l j (u :: l') = false := by
      cases v <;> simp only [isCell] at h ⊢ <;> first | exact h | skip
      split at h
      · split at h
        · cases h
        · exact h
      · exact h
    have h1 : find1C l j v y.1 = none := by
      cases v <;> simp only [isCell] at h <;> simp only [find1C]
      split at h
      · rename_i e1
        split at h
        · cases h
        · first | rfl | (rename_i e2;rw [e1];simp only;rw [e2])
      · first | rfl | (rename_i e1;rw [e1])
    simp only [findV]
    rw [h1]
    exact isCell_find h2
theorem newCells_len {vs : List Vy} {y : denVs vs} {l : Nat} : ∀ {j : Nat} {cs : List V},(newCells vs y l j cs).length = cs.length
  | _,[] => rfl
  | j,v :: r => by simp only [newCells,List.length_cons,newCells_len]
theorem newCells_get {vs : List Vy} {y : denVs vs} {l : Nat} : ∀ {j : Nat} {cs : List V} {i : Nat},i < cs.length → (newCells vs y l j cs).getD i .any = (match findV (find1C l (j + i)) vs y with | some u => u | none => cs.getD i .any)
  | _,[],i,h => by simp at h
  | j,v :: r,0,_ => by first | (simp [newCells];done) | (simp [newCells];rfl)
  | j,v :: r,i + 1,h => by
    simp only [newCells,List.getD_cons_succ]
    rw [newCells_get (by simpa using h),show j + 1 + i = j + (i + 1) from by omega]
theorem cellsOk_get {vs : List Vy} {l : Nat} : ∀ {j : Nat} {a b : List V} {i : Nat},cellsOk vs l j a b = true → i < a.length → isCell l (j + i) vs = true ∨ a.getD i .any = b.getD i .any
  | _,[],_,_,_,h => by simp at h
  | j,a :: l1,[],_,h,_ => by simp [cellsOk] at h
  | j,a :: l1,b :: l2,0,h,_ => by
    simp only [cellsOk] at h
    split at h
    · rename_i e;exact .inl e
    · split at h
      · rename_i e;exact .inr (by simpa using eqb_eq e)
      · cases h
  | j,a :: l1,b :: l2,i + 1,h,hi => by
    have h' : cellsOk vs l (j + 1) l1 l2 = true := by
      simp only [cellsOk] at h
      split at h
      · exact h
      · split at h
        · exact h
        · cases h
    have := cellsOk_get (i := i) h' (by simpa using hi)
    rw [show j + 1 + i = j + (i + 1) from by omega] at this
    simpa using this
theorem keysOk_mem {vs : List Vy} {dd : List Nat} {o0 o1 : Objs} : ∀ {ks : List Nat},keysOk vs dd o0 o1 ks = true → ∀ l ∈ ks,keyOk vs dd o0 o1 l = true
  | [],_,l,h => by simp at h
  | k :: r,h,l,hl => by
    simp only [keysOk] at h
    split at h
    · rename_i h1
      rcases List.mem_cons.1 hl with rfl | hl
      · exact h1
      · exact keysOk_mem h l hl
    · cases h
theorem subN_mem {ks : List Nat} {nx : Nat} : ∀ {r : List Nat},subN ks nx r = true → ∀ l ∈ r,nx ≤ l ∨ l ∈ ks
  | [],_,l,h => by simp at h
  | k :: r,h,l,hl => by
    simp only [subN] at h
    split at h
    · rename_i h1
      rcases List.mem_cons.1 hl with rfl | hl
      · exact .inl (Nat.le_of_ble_eq_true h1)
      · exact subN_mem h l hl
    · split at h
      · rename_i h1
        rcases List.mem_cons.1 hl with rfl | hl
        · exact .inr (memN_iff.1 h1)
        · exact subN_mem h l hl
      · cases h
theorem diOk_mem {ks : List Nat} {nx : Nat} {o0 o1 : Objs} : ∀ {r : List Nat},diOk ks nx o0 o1 r = true → ∀ l ∈ r,nx ≤ l ∨ l ∈ ks ∨ ∃ cs,getO l o0 = some (.box cs) ∧ getO l o1 = some (.box cs)
  | [],_,l,h => by simp at h
  | k :: r,h,l,hl => by
    simp only [diOk] at h
    have key : (l = k → nx ≤ l ∨ l ∈ ks ∨ ∃ cs,getO l o0 = some (.box cs) ∧ getO l o1 = some (.box cs)) → diOk ks nx o0 o1 r = true → nx ≤ l ∨ l ∈ ks ∨ ∃ cs,getO l o0 = some (.box cs) ∧ getO l o1 = some (.box cs) :=
      fun h1 h2 => (List.mem_cons.1 hl).elim h1 (diOk_mem h2 l)
    split at h
    · rename_i h1;exact key (fun e => .inl (e ▸ Nat.le_of_ble_eq_true h1)) h
    · split at h
      · rename_i h1;exact key (fun e => .inr (.inl (e ▸ memN_iff.1 h1))) h
      · split at h
        · rename_i cs h0
          split at h
          · rename_i cs1 h2
            split at h
            · rename_i h3
              exact key (fun e => .inr (.inr ⟨cs,e ▸ h0,by rw [e,h2,eqbL_eq h3]⟩)) h
            · cases h
          · cases h
        · cases h
theorem wrOk_mem {la : LA} {t0 t1 : List (Nat × V)} : ∀ {r : List Nat},wrOk la t0 t1 r = true → ∀ t ∈ r,t ∈ la.an ∨ t ∈ LA.tmps la.vs ∨ look t t0 = look t t1
  | [],_,l,h => by simp at h
  | k :: r,h,t,ht => by
    simp only [wrOk] at h
    have key : (t = k → t ∈ la.an ∨ t ∈ LA.tmps la.vs ∨ look t t0 = look t t1) → wrOk la t0 t1 r = true → t ∈ la.an ∨ t ∈ LA.tmps la.vs ∨ look t t0 = look t t1 := fun h1 h2 =>
      (List.mem_cons.1 ht).elim h1 (wrOk_mem h2 t)
    split at h
    · rename_i h1;exact key (fun e => .inl (e ▸ memN_iff.1 h1)) h
    · split at h
      · rename_i h1;exact key (fun e => .inr (.inl (e ▸ memN_iff.1 h1))) h
      · split at h
        · split at h
          · rename_i h1;exact key (fun e => .inr (.inr (e ▸ eqb_eq h1))) h
          · cases h
        · cases h
theorem wk_frzT {cx : Cx} (t : Nat) : ∀ (n : Nat) (s : St),Wk P cx s (frzT t n s)
  | 0,s => .refl s
  | n + 1,s => by
    simp only [frzT]
    split
    · exact .refl s
    · rename_i l hl
      exact (wk_freeze l).trans (wk_frzT t n _)
theorem Inv.frzT (t : Nat) : ∀ (n : Nat) (s : St),Inv s (frzT t n s)
  | 0,s => .refl s
  | n + 1,s => by
    simp only [YtldikbpclaeajaaGreatDoor.frzT]
    split
    · exact .refl s
    · rename_i l hl
      exact (Inv.freeze l s).trans (Inv.frzT t n _)
theorem wk_frzC {cx : Cx} (l j : Nat) : ∀ (n : Nat) (s : St),Wk P cx s (frzC l j n s)
  | 0,s => .refl s
  | n + 1,s => by
    simp only [frzC]
    split
    · split
      · exact .refl s
      · exact (wk_freeze _).trans (wk_frzC l j n _)
    · exact .refl s
theorem Inv.frzC (l j : Nat) : ∀ (n : Nat) (s : St),Inv s (frzC l j n s)
  | 0,s => .refl s
  | n + 1,s => by
    simp only [YtldikbpclaeajaaGreatDoor.frzC]
    split
    · split
      · exact .refl s
      · exact (Inv.freeze _ s).trans (Inv.frzC l j n _)
    · exact .refl s
theorem wk_frzVs {cx : Cx} : ∀ (vs : List Vy) (s : St),Wk P cx s (frzVs vs s)
  | [],s => .refl s
  | v :: r,s => by
    cases v <;> simp only [frzVs] <;> first | exact wk_frzVs r s | exact (wk_frzT _ _ s).trans (wk_frzVs r _) | exact (wk_frzC _ _ _ s).trans (wk_frzVs r _)
theorem Inv.frzVs : ∀ (vs : List Vy) (s : St),Inv s (frzVs vs s)
  | [],s => .refl s
  | v :: r,s => by
    cases v <;> simp only [YtldikbpclaeajaaGreatDoor.frzVs] <;> first | exact Inv.frzVs r s | exact (Inv.frzT _ _ s).trans (Inv.frzVs r _) | exact (Inv.frzC _ _ _ s).trans (Inv.frzVs r _)
end Go.Proofs.YtldikbpclaeajaaGreatDoor
namespace Go.Proofs.YtldikbpclaeajaaGreatDoor
open Go
set_option linter.unusedVariables false
variable {P : Program} {τ : TyTab} {κ : ConTab}
structure Hd (la : LA) (s0 s : St) : Prop where
  nt : s.nt = s0.nt
  nx : s0.nx ≤ s.nx
  tmp : ∀ t,t ∉ s.wr → t ∉ la.an → t ∉ LA.tmps la.vs → look t s.tmps = look t s0.tmps
  obj : ∀ l,l ∉ s.di → l ∉ la.keys → getO l s.objs = getO l s0.objs
  df : s0.nt ∉ s.wr → s.df = s0.df
theorem Hd.inv {la : LA} {s0 s s' : St} (h : Hd la s0 s) (k : Inv s s') : Hd la s0 s' :=
  ⟨k.nt.trans h.nt,Nat.le_trans h.nx k.nx,fun t h1 h2 h3 => (k.tmp t h1).trans (h.tmp t (fun hm => h1 (k.wr t hm)) h2 h3),fun l h1 h2 => (k.obj l h1).trans (h.obj l (fun hm => h1 (k.di l hm)) h2),
    fun h1 => (k.df (by rw [h.nt];exact h1)).trans (h.df fun hm => h1 (k.wr _ hm))⟩
def St.clr (s : St) : St := match s with
  | ⟨nt,tmps,objs,nx,df,wr,di,mv⟩ => ⟨nt,tmps,objs,nx,df,[],[],mv⟩
theorem Hd.clr (la : LA) (s0 : St) : Hd la s0 s0.clr := ⟨rfl,Nat.le_refl _,fun _ _ _ _ => rfl,fun _ _ _ => rfl,fun _ => rfl⟩
theorem headT_look {t : Nat} {tm : List (Nat × V)} : ∀ {vs : List Vy} {y : denVs vs},t ∉ LA.tmps vs → look t (headT vs y tm) = look t tm
  | [],_,_ => rfl
  | [v],y,h => by
    cases v with
    | t u T =>
      simp only [LA.tmps,List.mem_cons,not_or] at h
      simp only [headT,look_cons]
      rw [if_neg (Ne.symm h.1)]
    | _ => rfl
  | v :: u :: l,y,h => by
    cases v with
    | t w T =>
      simp only [LA.tmps,List.mem_cons,not_or] at h
      simp only [headT,look_cons]
      rw [if_neg (Ne.symm h.1)]
      exact headT_look h.2
    | _ =>
      simp only [headT]
      exact headT_look h
theorem Hd.head (la : LA) (s0 : St) (y : denVs la.vs) : Hd la s0 (head la s0 y) := by
  obtain ⟨vs,es,an,dd⟩ := la
  obtain ⟨nt,tmps,objs,nx,df,wr,di,mv⟩ := s0
  refine ⟨rfl,Nat.le_refl _,fun t _ h2 h3 => ?_,fun l _ h2 => ?_,fun _ => rfl⟩
  · show look t (anT an (headT vs y tmps)) = look t tmps
    rw [anT_look,if_neg h2]
    exact headT_look h3
  · show getO l (headO vs dd y objs (keysV vs ++ dd)) = getO l objs
    rw [headO_get,if_neg (show l ∉ keysV vs ++ dd from h2)]
theorem ownB_sub {E E' : Env} {objs objs' : Objs} (tr : ∀ l o,getO l objs' = some o → ∃ o1 L,getO l objs = some o1 ∧ E.loc l = some L ∧ E'.loc l = some L ∧ (∀ L,o.has L → o1.has L) ∧ (ObjAt P E L o1 → ObjAt P E' L o)) {b : Nat} (h : ownB E' objs' b) : ownB E objs b := by
  obtain ⟨l,o,L,h1,h2,h3,h4⟩ := h
  obtain ⟨o1,L1,k1,k2,k3,k4,k5⟩ := tr l o h1
  rw [k3] at h2;cases h2
  exact ⟨l,o1,L,k1,k2,k4 L h3,h4⟩
theorem Good.sub {E E' : Env} {objs objs' : Objs} (g : Good P E objs) (hw : E'.w = E.w) (hS : E'.S = E.S)
    (tr : ∀ l o,getO l objs' = some o → ∃ o1 L,getO l objs = some o1 ∧ E.loc l = some L ∧ E'.loc l = some L ∧ (∀ L,o.has L → o1.has L) ∧ (ObjAt P E L o1 → ObjAt P E' L o)) : Good P E' objs' := by
  refine ⟨fun l o h => ?_,fun b h hs => ?_,fun b hs => ?_,g.tab.mono fun b hb => ⟨hS ▸ hb,by rw [hw]⟩,fun i j p q K K' h1 h2 h3 h4 h5 h6 h7 => ?_⟩
  · obtain ⟨o1,L1,k1,k2,k3,k4,k5⟩ := tr l o h
    obtain ⟨L,hL,ha⟩ := g.at_ l o1 k1
    rw [k2] at hL;cases hL
    exact ⟨L1,k3,k5 ha⟩
  · exact g.ns b (ownB_sub tr h) (hS ▸ hs)
  · rw [hw];exact g.sl b (hS ▸ hs)
  · obtain ⟨o1,L1,k1,k2,k3,k4,k5⟩ := tr i p h1
    obtain ⟨o2,L2,m1,m2,m3,m4,m5⟩ := tr j q h2
    rw [k3] at h3;cases h3
    rw [m3] at h4;cases h4
    exact g.inj i j o1 o2 K K' k1 m1 k2 m2 (k4 _ h5) (m4 _ h6) h7
theorem back_ok {cx : Cx} {la : LA} {s0 s : St} {y' : denVs la.vs} {a0 : Act} {w0 : World} (h0 : Rel P cx s0 a0 w0) (hd0 : Hd la s0 s) (hb : back la s0 s = some y') {a : Act} {w : World} (hr : Rel P cx s a w) : Rel P cx (head la s0 y') a w := by
  unfold back at hb
  have hr1 := wk_frzVs (P := P) (cx := cx) la.vs s a w hr
  have hd := hd0.inv (Inv.frzVs la.vs s)
  revert hb hr1 hd
  generalize frzVs la.vs s = s1
  intro hb hr1 hd
  simp only at hb
  split at hb
  · cases hb
  · rename_i y hy
    split at hb
    · cases hb
    · rename_i hwr
      split at hb
      · cases hb
      · rename_i hnt
        split at hb
        · cases hb
        · rename_i hdi
          split at hb
          · cases hb
          · rename_i hmv
            split at hb
            · cases hb
            · rename_i hks
              cases hb
              obtain ⟨E0,rfl,r0⟩ := h0
              obtain ⟨E,rfl,r⟩ := hr1
              have hf := r0.fresh
              have hlt : ∀ {l o},getO l s0.objs = some o → l < s0.nx := fun {l o} h => Nat.lt_of_not_le fun hle => by
                obtain ⟨L,hL,_⟩ := r0.good.at_ l o h
                rw [hf l hle] at hL;cases hL
              have hdf : s1.df = s0.df := hd.df fun hm => by
                have := memN_iff.2 hm;rw [hnt] at this;cases this
              have hcx : ∀ l,s0.nx ≤ l → cx.E.loc l = none := fun l hl => by
                have hn : getO l s0.objs = none := by
                  cases h : getO l s0.objs with
                  | none => rfl
                  | some o => exact absurd (hlt h) (by omega)
                rw [← r0.step.dom l hn];exact hf l hl
              obtain ⟨vs,es,an,dd⟩ := la
              have tr : ∀ l o,getO l (headO vs dd y' s0.objs (keysV vs ++ dd)) = some o → ∃ o1 L,getO l s1.objs = some o1 ∧ E.loc l = some L ∧ (E.cut s0.nx).loc l = some L ∧ (∀ L,o.has L → o1.has L) ∧ (ObjAt P E L o1 → ObjAt P (E.cut s0.nx) L o) := by
                intro l o h
                rw [headO_get] at h
                have hll : l < s0.nx := by
                  split at h
                  · rw [Option.map_eq_some_iff] at h
                    obtain ⟨o0,h1,_⟩ := h
                    exact hlt h1
                  · exact hlt h
                split at h
                · rename_i hm
                  rw [Option.map_eq_some_iff] at h
                  obtain ⟨o0,h1,rfl⟩ := h
                  have hk := keysOk_mem hks l hm
                  unfold keyOk at hk
                  split at hk
                  · cases hk
                  · rename_i p hp
                    obtain ⟨L,hL,hat⟩ := r.good.at_ l p hp
                    refine ⟨p,L,hp,hL,cut_loc hL hll,?_⟩
                    unfold newObj
                    rw [h1] at hk
                    simp only at hk
                    split at hk
                    · rename_i hdd
                      exact ⟨fun _ h => h.elim,fun _ => trivial⟩
                    · rename_i hdd
                      split at hk
                      · rename_i hob
                        obtain ⟨o',ho'⟩ := isObj_found (s1 := s1) (y := y') hob
                        simp only [ho']
                        obtain ⟨v,x,hv,hx1,hx2⟩ := findV_get hy ho'
                        have := find1O_get hx1 hx2
                        rw [hp] at this;cases this
                        refine ⟨fun _ h => h,fun h => ?_⟩
                        have hnb : ∀ cs,p ≠ .box cs := fun cs e => by
                          subst e
                          cases v <;> simp only [find1O] at hx2 <;> first | (cases hx2;done) | (split at hx2 <;> cases hx2)
                        have hnl : ∀ n t p' a b st j,p ≠ .lrec n t p' a b st j := fun n t p' a b st j e => by
                          subst e
                          cases v <;> simp only [find1O] at hx2 <;> first | (cases hx2;done) | (split at hx2 <;> cases hx2)
                        cases p with
                        | box cs => exact absurd rfl (hnb cs)
                        | lrec n t p' a b st j => exact absurd rfl (hnl n t p' a b st j)
                        | dead => trivial
                        | row t xs => exact h
                        | vrow t xs s m =>
                          simp only at hk
                          split at hk
                          · obtain ⟨_,_,hat0⟩ := r0.good.at_ l _ h1
                            rw [← eqbL_eq hk] at hat0
                            exact OCut.vrow (slot_cut hf hat0) _ _ h
                          · cases hk
                        | smap t m => exact h
                        | imap t m => exact h
                        | dfb => exact h
                      · rename_i hob
                        rw [isObj_find hob]
                        split at hk
                        · rename_i cs1
                          split at hk
                          · rename_i cs
                            refine ⟨fun _ _ => trivial,fun h => ?_⟩
                            obtain ⟨vals,t,k1,k2,k3⟩ := h
                            have hlen := cellsOk_len hk
                            refine ⟨vals,t,k1,by rw [newCells_len];omega,fun j hj => ?_⟩
                            rw [newCells_len] at hj
                            rw [newCells_get hj,Nat.zero_add]
                            split
                            · rename_i u hu
                              obtain ⟨v,x,hv,hx1,hx2⟩ := findV_get hy hu
                              exact find1C_get (E := E) hx1 hx2 hp (k3 j (by omega))
                            · rename_i hu
                              rcases cellsOk_get hk hj with hc | hc
                              · rw [Nat.zero_add] at hc
                                obtain ⟨u,hu'⟩ := isCell_found (y := y') hc
                                rw [hu] at hu';cases hu'
                              · obtain ⟨L0,hL0,hat0⟩ := r0.good.at_ l _ h1
                                obtain ⟨_,_,_,_,m3⟩ := hat0
                                have hcut := CutOk.of hf (m3 j hj)
                                rw [hc]
                                rw [hc] at hcut
                                exact hcut _ _ (k3 j (by omega))
                          · cases hk
                        · cases hk
                · rename_i hm
                  have hp : getO l s1.objs = some o := by
                    by_cases hnd : l ∈ s1.di
                    · rcases diOk_mem hdi l hnd with h1 | h1 | ⟨cs,h1,h2⟩
                      · omega
                      · exact absurd h1 hm
                      · rw [h2,← h,h1]
                    · exact (hd.obj l hnd hm).trans h
                  obtain ⟨L,hL,hat⟩ := r.good.at_ l o hp
                  obtain ⟨L0,hL0,hat0⟩ := r0.good.at_ l o h
                  exact ⟨o,L,hp,hL,cut_loc hL hll,fun _ h => h,OCut.of hf hat0 _ _⟩
              have g2 := Good.sub (E' := E.cut s0.nx) r.good rfl rfl tr
              obtain ⟨nt,tmps,objs,nx,df,wr,di,mv⟩ := s0
              refine ⟨E.cut nx,rfl,⟨g2,fun l hl => ?_,?_,r.drawn,r.size.trans hd.nt,?_,fun t => ?_⟩⟩
              · show (if l < nx then _ else _) = _
                rw [if_neg (by have : nx ≤ l := hl;omega)]
              · refine ⟨⟨r.step.ext.S,fun l L hl hL => ?_⟩,r.step.os,r.step.tape,r.step.output,r.step.size,r.step.frame,fun b hb => r.step.own b (ownB_sub tr hb),r.step.st,fun l hl => ?_,fun l hl => ?_⟩
                · have hll : l < nx := Nat.lt_of_not_le fun hle => by rw [hcx l hle] at hL;cases hL
                  refine cut_loc (r.step.ext.loc l L (fun hm => ?_) hL) hll
                  rcases subN_mem hmv l hm with h | h
                  · simp only at h;omega
                  · exact hl h
                · have : getO l (headO vs dd y' objs (keysV vs ++ dd)) = none := hl
                  rw [headO_get] at this
                  refine r0.step.keys l ?_
                  split at this
                  · simpa using this
                  · exact this
                · have h2 : getO l (headO vs dd y' objs (keysV vs ++ dd)) = none := hl
                  rw [headO_get] at h2
                  have h3 : getO l objs = none := by
                    split at h2
                    · simpa using h2
                    · exact h2
                  show (if l < nx then E.loc l else none) = _
                  split
                  · rename_i hll
                    by_cases hm : l ∈ keysV vs ++ dd
                    ·
                      have hk := keysOk_mem hks l hm
                      unfold keyOk at hk
                      rw [h3] at hk
                      split at hk <;> cases hk
                    · have hnd : l ∉ s1.di := fun hmem => by
                        rcases diOk_mem hdi l hmem with h1 | h1 | ⟨cs,h1,h2⟩
                        · simp only at h1;omega
                        · exact hm h1
                        · rw [h3] at h1;cases h1
                      exact r.step.dom l ((hd.obj l hnd hm).trans h3)
                  · rename_i hll
                    exact (hcx l (by simp only;omega)).symm
              · have := r.df
                rw [hdf] at this
                exact DfRel.cut hf r0.df this
              · show Rep P (E.cut nx) (look t (anT an (headT vs y' tmps))) _
                rw [anT_look]
                split
                · exact .any _
                · rename_i hn
                  refine headT_rep (lo := (E.cut nx).loc) (r.rep t) hy (fun hnv => ?_)
                  have e : look t tmps = look t s1.tmps := by
                    by_cases hw : t ∈ s1.wr
                    · rcases wrOk_mem hwr t hw with h | h | h
                      · exact absurd h hn
                      · exact absurd h hnv
                      · exact h
                    · exact (hd.tmp t hw hn hnv).symm
                  have hcut := CutOk.of hf (r0.rep t)
                  have e' : look t (St.mk nt tmps objs nx df wr di mv).tmps = look t s1.tmps := e
                  rw [e'] at hcut
                  rw [e]
                  exact hcut _ _ (r.rep t)
end Go.Proofs.YtldikbpclaeajaaGreatDoor
namespace Go.Proofs.YtldikbpclaeajaaGreatDoor
open Go
set_option linter.unusedVariables false
variable {P : Program} {τ : TyTab} {κ : ConTab}
def invM (M : List Nat) (v : V) : V := match v.key with
  | some k => match memN k M with
    | true => .any
    | false => v
  | none => v
theorem inv_repM {E E' : Env} {M : List Nat} (hx : Ext E E' M) {v : V} {c : Value} (r : Rep P E v c) : Rep P E' (v.subst (invM M)) c := by
  refine subst_rep hx.S (fun v c hr r => ?_) r
  unfold invM
  split
  · rename_i k hk
    split
    · exact .any _
    · rename_i hm
      have hk' : ∀ {L},E.loc k = some L → E'.loc k = some L := fun h => hx.loc k _ (fun hmem => by rw [memN_iff.2 hmem] at hm;cases hm) h
      cases r <;> simp only [V.isRef,Bool.false_eq_true] at hr <;> simp only [V.key,Option.some.injEq] at hk <;> subst hk
      · rename_i h;exact .ref (hk' h)
      · rename_i h;exact .rref (hk' h)
      · rename_i h;exact .osl (hk' h)
      · rename_i h hp;exact .osp (hk' h) hp
      · rename_i h;exact .map (hk' h)
      · rename_i h;exact .yl (hk' h)
      · rename_i h;exact .bsl (hk' h)
  · rename_i hk
    cases r <;> simp only [V.isRef,Bool.false_eq_true] at hr <;> simp only [V.key,reduceCtorEq] at hk
mutual
def V.hit (M : List Nat) : V → Bool
  | .fn _ a b => hitL M a || hitL M b
  | .agg cs => hitL M cs
  | .tup cs => hitL M cs
  | .er cs => hitL M cs
  | .when _ v => V.hit M v
  | .opt _ v => V.hit M v
  | .ref k _ => memN k M
  | .rref k _ _ => memN k M
  | .osl k => memN k M
  | .osp k _ _ => memN k M
  | .map k => memN k M
  | .yl k => memN k M
  | .bsl k _ => memN k M
  | _ => false
def hitL (M : List Nat) : List V → Bool
  | [] => false
  | v :: r => V.hit M v || hitL M r
end
mutual
theorem subst_hit {M : List Nat} : ∀ {v : V},v.hit M = false → v.subst (invM M) = v
  | .fn g a b,h => by simp only [V.hit,Bool.or_eq_false_iff] at h;simp only [V.subst,substL_hit h.1,substL_hit h.2]
  | .agg cs,h => by simp only [V.hit] at h;simp only [V.subst,substL_hit h]
  | .tup cs,h => by simp only [V.hit] at h;simp only [V.subst,substL_hit h]
  | .er cs,h => by simp only [V.hit] at h;simp only [V.subst,substL_hit h]
  | .when b v,h => by simp only [V.hit] at h;simp only [V.subst,subst_hit h]
  | .opt b v,h => by simp only [V.hit] at h;simp only [V.subst,subst_hit h]
  | .ref k o,h => by simp only [V.hit] at h;simp only [V.subst,invM,V.key,h]
  | .rref k i o,h => by simp only [V.hit] at h;simp only [V.subst,invM,V.key,h]
  | .osl k,h => by simp only [V.hit] at h;simp only [V.subst,invM,V.key,h]
  | .osp k lo n,h => by simp only [V.hit] at h;simp only [V.subst,invM,V.key,h]
  | .map k,h => by simp only [V.hit] at h;simp only [V.subst,invM,V.key,h]
  | .yl k,h => by simp only [V.hit] at h;simp only [V.subst,invM,V.key,h]
  | .bsl k n,h => by simp only [V.hit] at h;simp only [V.subst,invM,V.key,h]
  | .any,_ => rfl
  | .d _ _,_ => rfl
  | .nilp,_ => rfl
  | .nilf,_ => rfl
  | .nils,_ => rfl
  | .nilm,_ => rfl
  | .pf _ _ _ _,_ => rfl
theorem substL_hit {M : List Nat} : ∀ {cs : List V},hitL M cs = false → substL (invM M) cs = cs
  | [],_ => rfl
  | v :: r,h => by simp only [hitL,Bool.or_eq_false_iff] at h;simp only [substL,subst_hit h.1,substL_hit h.2]
end
def hitT (M : List Nat) : List (Nat × V) → List Nat
  | [] => []
  | (t,v) :: r => match v.hit M with
    | true => t :: hitT M r
    | false => hitT M r
theorem look_hit {M : List Nat} {t : Nat} : ∀ {tmps : List (Nat × V)},t ∉ hitT M tmps → look t (substT (invM M) tmps) = look t tmps
  | [],_ => rfl
  | (u,v) :: r,h => by
    simp only [hitT] at h
    rw [substT,look_cons,look_cons]
    cases hv : v.hit M with
    | true =>
      rw [hv] at h
      simp only [List.mem_cons,not_or] at h
      rw [if_neg (Ne.symm h.1),if_neg (Ne.symm h.1)]
      exact look_hit h.2
    | false =>
      rw [hv] at h
      rw [subst_hit hv]
      split
      · rfl
      · exact look_hit h
structure FI where
  nt : Nat
  res : List ResultVar
  code : Code
def FI.Ok (P : Program) (g : FuncId) (fi : FI) : Prop := ∃ fn, P.funcs[g]? = some fn ∧ fn.body = some fi.code ∧ fn.ntmps = fi.nt ∧ fn.results.toList = fi.res ∧ (fn.name == "runtime.NumGoroutine") = false
theorem FI.Ok.call {g : FuncId} {fi : FI} (h : fi.Ok P g) : CallOk P g := by
  obtain ⟨fn,h1,h2,_,_,h5⟩ := h
  exact ⟨fn,h1,by rw [h2];rfl,h5⟩
def closeM : List Df → Objs → Option Objs
  | [],o => some o
  | .mark l :: r,o => match getO l o with
    | some .dfb => closeM r ((l,.dead) :: o)
    | _ => none
  | .fn _ _ :: _,_ => none
def dfKeys : List Df → List Nat
  | [] => []
  | .mark l :: r => l :: dfKeys r
  | .fn _ _ :: r => dfKeys r
def resVs (τ : TyTab) (tmps : List (Nat × V)) (objs : Objs) : List ResultVar → Option (List V)
  | [] => some []
  | .tmp t :: l => match resVs τ tmps objs l with
    | some r => some (look t tmps :: r)
    | none => none
  | .cell b t :: l => match look b tmps with
    | .ref k 0 => match getO k objs with
      | some (.box cs) => match τ t with
        | some ti => match ti.k.known with
          | true => match takeN ti.size cs with
            | some ds => match ofCells ti.isAgg ds with
              | some v => match resVs τ tmps objs l with
                | some r => some (v :: r)
                | none => none
              | none => none
            | none => none
          | false => none
        | none => none
      | _ => none
    | _ => none
def mkRes : List V → V
  | [v] => v
  | l => .tup l
def finish (τ : TyTab) (res : List ResultVar) (s : St) : Option (V × St) := match s with
  | ⟨nt,tmps,objs,nx,df,wr,di,mv⟩ => match closeM df objs with
    | some objs' => match resVs τ tmps objs' res with
      | some vs => some (mkRes vs,⟨nt,tmps,objs',nx,[],wr,dfKeys df ++ di,mv⟩)
      | none => none
    | none => none
def resRun (tmps : Array Value) : ResultVar → Sem Value
  | .tmp t => pure (tmps.getD t undef)
  | .cell b t => do loadVar t (← asAddr (tmps.getD b undef))
theorem results_eq (fn : Func) (tmps : Array Value) : results fn tmps = (do let vs ← fn.results.mapM (resRun tmps);pure (if h : vs.size = 1 then vs[0] else .tuple vs)) := by
  rfl
theorem resVs_run (hτ : TabOk P τ) {tmps : List (Nat × V)} {objs : Objs} {E : Env} {a : Act} (g : Good P E objs) (h6 : ∀ t, Rep P E (look t tmps) (a.tmps.getD t undef)) : ∀ {l : List ResultVar} {vs : List V}, resVs τ tmps objs l = some vs →
    ∃ cs : List Value,(l.mapM (resRun a.tmps)).run P E.w = .ok cs E.w ∧ Reps P E vs cs
  | [],vs,h => by simp only [resVs] at h;cases h;exact ⟨[],by simp,.nil⟩
  | .tmp t :: l,vs,h => by
    simp only [resVs] at h
    split at h
    · rename_i r h1
      cases h
      obtain ⟨cs,h2,h3⟩ := resVs_run hτ g h6 h1
      exact ⟨a.tmps.getD t undef :: cs,by simp only [List.mapM_cons,resRun,Sem.run_bind,Sem.run_pure,Result.andThen_ok,h2],.cons (h6 t) h3⟩
    · cases h
  | .cell b t :: l,vs,h => by
    simp only [resVs] at h
    split at h
    · rename_i k hb
      split at h
      · rename_i cs hcs
        split at h
        · rename_i ti hti
          split at h
          · rename_i hk
            split at h
            · rename_i ds hd1
              split at h
              · rename_i v hd2
                split at h
                · rename_i r hr
                  cases h
                  obtain ⟨rfl,hd3⟩ := takeN_inv hd1
                  obtain ⟨L,hL,hat⟩ := g.at_ _ _ hcs
                  obtain ⟨vals,t',h4,h5⟩ := box_reps hat
                  obtain ⟨h7,h8⟩ := h5.at_cells h4 0 ti.size
                  rw [List.drop_zero] at h7
                  have hb' := h6 b
                  rw [hb] at hb'
                  obtain ⟨L',hL',e⟩ := ref_inv hb'
                  rw [hL] at hL';cases hL'
                  have hl := loadVar_run (hτ t ti hti) hk E.w L.b 0 _ (h7.1.trans hd3) h8
                  obtain ⟨cs',h2,h3⟩ := resVs_run hτ g h6 hr
                  have r1 := ofCells_rep hd2 h7
                  have hl' := hl r1.2
                  refine ⟨_,by simp only [List.mapM_cons,resRun,e,asAddr,Sem.run_bind,Sem.run_pure,Result.andThen_ok,hl',h2],.cons r1.1 h3⟩
                · cases h
              · cases h
            · cases h
          · cases h
        · cases h
      · cases h
    · cases h
theorem mkRes_rep {E : Env} {vs : List V} {cs : List Value} (r : Reps P E vs cs) : Rep P E (mkRes vs) (if h : cs.toArray.size = 1 then cs.toArray[0] else .tuple cs.toArray) := by
  match vs,cs,r with
  | [],[],r => exact .tup rfl (fun j hj => by simp at hj)
  | [v],[c],r => exact r.head
  | v :: v' :: vs,c :: c' :: cs,r =>
    rw [dif_neg (by simp)]
    exact .tup (by simpa using r.1) (fun j hj => by have := r.2 j hj;simpa [Array.getD_eq_getD_getElem?,List.getD_eq_getElem?_getD] using this)
  | [],_ :: _,r => have := r.1;simp at this
  | [_],[],r => have := r.1;simp at this
  | [_],_ :: _ :: _,r => have := r.1;simp at this
  | _ :: _ :: _,[],r => have := r.1;simp at this
  | _ :: _ :: _,[_],r => have := r.1;simp at this
def argTmps : Nat → List V → List (Nat × V)
  | _,[] => []
  | n,v :: l => (n,v) :: argTmps (n + 1) l
theorem look_args : ∀ (l : List V) (n t : Nat),look t (argTmps n l) = if n ≤ t then l.getD (t - n) .any else .any
  | [],n,t => by simp [argTmps,look]
  | v :: l,n,t => by
    rw [argTmps,look_cons]
    split
    · rename_i e;subst e;simp
    · rename_i e
      rw [look_args l (n + 1) t]
      by_cases h : n ≤ t
      · rw [if_pos h,if_pos (by omega),show t - n = (t - (n + 1)) + 1 from by omega];simp
      · rw [if_neg h,if_neg (by omega)]
theorem enter_rel {E : Env} {objs : Objs} {nx nt : Nat} {args : List V} {cargs : Array Value} (g : Good P E objs) (hf : ∀ l, nx ≤ l → E.loc l = none) (r : Reps P E args cargs.toList) (hn : args.length ≤ nt) :
    Rel P ⟨E,objs⟩ ⟨nt,argTmps 0 args,objs,nx,[],[],[],[]⟩ { tmps := cargs ++ Array.replicate (nt - cargs.size) undef,defers := [] } E.w := by
  have hsz : cargs.size = args.length := by simpa using r.1
  refine ⟨E,rfl,g,hf,.refl _ _ _,Nat.le_refl _,?_,rfl,fun t => ?_⟩
  · simp [hsz];omega
  · show Rep P E (look t (argTmps 0 args)) _
    rw [look_args,if_pos (Nat.zero_le _),Nat.sub_zero]
    by_cases ht : t < args.length
    · have := r.2 t ht
      simp only [Array.getD_eq_getD_getElem?]
      rw [Array.getElem?_append_left (by omega)]
      simpa [List.getD_eq_getElem?_getD] using this
    · rw [List.getD_eq_getElem?_getD,List.getElem?_eq_none (by omega)]
      exact .any _
structure Aft (P : Program) (E : Env) (objs : Objs) (s2 : St) (E' : Env) : Prop where
  good : Good P E' s2.objs
  fresh : ∀ l,s2.nx ≤ l → E'.loc l = none
  step : Step E objs E' s2.objs s2.mv
  drawn : E.w.drawn ≤ E'.w.drawn
theorem leaves_close {fn : Func} {tmps : Array Value} {R : Ending → World → Prop} : ∀ {df : List Df} {ds : List Deferred} {objs objs' : Objs} {E : Env}, closeM df objs = some objs' → DfRel P E df ds → Good P E objs →
    (∀ E',Good P E' objs' → Step E objs E' objs' [] → E.w.drawn ≤ E'.w.drawn → LeavesInM (fz none) 0 P fn tmps R [] .returning E'.w) → LeavesInM (fz none) 0 P fn tmps R ds .returning E.w
  | [],ds,objs,objs',E,h,hd,g,hk => by
    cases h
    rw [show ds = [] from hd]
    exact hk E g (.refl _ _ _) (Nat.le_refl _)
  | .mark l :: r,ds,objs,objs',E,h,⟨L,rest,h1,⟨K,hK,h2⟩,h3⟩,g,hk => by
    simp only [closeM] at h
    split at h
    · rename_i ho
      obtain ⟨K',hK',hat⟩ := g.at_ l _ ho
      rw [hK] at hK';cases hK'
      have hb : E.w.heap[L]? = some (.deferred (some [])) := by rw [← h2];exact hat
      have hlt : L < E.w.heap.size := (Array.getElem?_eq_some_iff.1 hb).1
      have hgr : E.w.grownBy (E.w.putObj L (.deferred none)) (some L) := grownBy_putObj' _ _ _
      have hp := Good.put g (mv := false) (o' := .dead) (L' := K) ho hK hgr (fun b e => by cases e;exact ⟨trivial,h2.symm⟩) (fun _ => rfl) trivial (fun h => h.elim)
      have e : E.setL (E.w.putObj L (.deferred none)) l K = ⟨E.w.putObj L (.deferred none),E.S,E.loc⟩ := by
        simp only [Env.setL]
        congr 1
        funext j
        split
        · rename_i e;subst e;exact hK.symm
        · rfl
      rw [e] at hp
      subst h1
      refine ⟨by simp,.inl ⟨L,_,rfl,run_takeDeferred hb,?_⟩⟩
      have hx : Ext E ⟨E.w.putObj L (.deferred none),E.S,E.loc⟩ [] := by simpa [moved] using hp.2.ext
      exact leaves_close (E := ⟨E.w.putObj L (.deferred none),E.S,E.loc⟩) h (h3.ext hx) hp.1 (fun E' g' st hd => hk E' g' (by simpa [moved,edit] using hp.2.trans st) hd)
    · cases h
  | .fn _ _ :: _,_,_,_,_,h,_,_,_ => by cases h
theorem leave_ok (hτ : TabOk P τ) {cx : Cx} {fi : FI} {fn : Func} (hres : fn.results.toList = fi.res) {s s2 : St} {v : V} (h : finish τ fi.res s = some (v, s2)) {a : Act} {w : World} (hr : Rel P cx s a w) {R : Ending → World → Prop}
    (hk : ∀ u E',Aft P cx.E cx.imp s2 E' → Rep P E' v u → R (.returned u) E'.w) : LeavesInM (fz none) 0 P fn a.tmps R a.defers .returning w := by
  obtain ⟨nt,tmps,objs,nx,df,wr,di,mv⟩ := s
  unfold finish at h
  simp only at h
  split at h
  · rename_i objs' hc
    split at h
    · rename_i vs hvs
      cases h
      obtain ⟨E,rfl,r⟩ := hr
      refine leaves_close hc r.df r.good (fun E' g' st hd => ?_)
      have hrep : ∀ t,Rep P E' (look t tmps) (a.tmps.getD t undef) := fun t => (r.rep t).mono st.ext
      obtain ⟨cs,h13,h14⟩ := resVs_run hτ g' hrep hvs
      refine ⟨_,?_,hk _ E' ⟨g',fun l hl => ?_,by simpa using r.step.trans st,Nat.le_trans r.drawn hd⟩ (mkRes_rep h14)⟩
      · rw [results_eq,Array.mapM_eq_mapM_toList,hres]
        simp only [Sem.run_bind,Sem.run_map,h13,Result.andThen_ok,Sem.run_pure]
      · have hn : getO l objs' = none := by
          have h1 : getO l objs = none := by
            cases h : getO l objs with
            | none => rfl
            | some o => obtain ⟨L,hL,_⟩ := r.good.at_ l o h;rw [r.fresh l hl] at hL;cases hL
          exact closeM_none hc h1
        rw [st.dom l hn];exact r.fresh l hl
    · cases h
  · cases h
where
  closeM_none : ∀ {df : List Df} {objs objs' : Objs} {l : Nat},closeM df objs = some objs' → getO l objs = none → getO l objs' = none
    | [],_,_,_,h,hn => by cases h;exact hn
    | .mark k :: r,objs,objs',l,h,hn => by
      simp only [closeM] at h
      split at h
      · rename_i ho
        refine closeM_none h ?_
        rw [getO_cons,if_neg ?_]
        · exact hn
        · intro e;subst e;rw [hn] at ho;cases ho
      · cases h
    | .fn _ _ :: _,_,_,_,h,_ => by cases h
def allMarks (M : List Nat) : List Df → Bool
  | [] => true
  | .mark l :: r => match memN l M with
    | true => false
    | false => allMarks M r
  | .fn _ _ :: _ => false
def backC (s s2 : St) : Option St := match s,s2 with
  | ⟨nt,tmps,_,_,df,wr,di,mv⟩,⟨_,_,objs,nx,_,_,di2,mv2⟩ => match mv2 with
    | [] => some ⟨nt,tmps,objs,nx,df,wr,di2 ++ di,mv⟩
    | l :: r => match allMarks (l :: r) df with
      | true => some ⟨nt,substT (invM (l :: r)) tmps,objs,nx,df,hitT (l :: r) tmps ++ wr,di2 ++ di,l :: r ++ mv⟩
      | false => none
theorem DfRel.marks {E E' : Env} {M : List Nat} (hx : Ext E E' M) : ∀ {df : List Df} {ds : List Deferred},allMarks M df = true → DfRel P E df ds → DfRel P E' df ds
  | [],_,_,h => h
  | .mark l :: r,_,hm,⟨L,rest,h1,⟨K,hK,h2⟩,h3⟩ => by
    simp only [allMarks] at hm
    split at hm
    · cases hm
    · rename_i hne
      exact ⟨L,rest,h1,⟨K,hx.loc l K (fun h => by rw [memN_iff.2 h] at hne;cases hne) hK,h2⟩,h3.marks hx hm⟩
  | .fn _ _ :: _,_,hm,_ => by cases hm
theorem backC_rel {cx : Cx} {s s2 s3 : St} {a : Act} {E E' : Env} (r : RelE P cx s a E) (h : backC s s2 = some s3) (k : Aft P E s.objs s2 E') : RelE P cx s3 a E' := by
  obtain ⟨nt,tmps,objs,nx,df,wr,di,mv⟩ := s
  obtain ⟨nt2,tmps2,objs2,nx2,df2,wr2,di2,mv2⟩ := s2
  unfold backC at h
  cases mv2 with
  | nil =>
    cases h
    have hx : Ext E E' [] := k.step.ext
    exact ⟨k.good,k.fresh,r.step.trans k.step,Nat.le_trans r.drawn k.drawn,r.size,r.df.ext hx,fun t => (r.rep t).mono hx⟩
  | cons l M =>
    simp only at h
    split at h
    · rename_i hm
      cases h
      have hx : Ext E E' (l :: M) := k.step.ext
      refine ⟨k.good,k.fresh,r.step.trans k.step,Nat.le_trans r.drawn k.drawn,r.size,r.df.marks hx hm,fun t => ?_⟩
      show Rep P E' (look t (substT _ tmps)) _
      rw [substT_map,look_subst]
      exact inv_repM hx (r.rep t)
    · cases h
structure InvO (objs : Objs) (nx : Nat) (s2 : St) : Prop where
  nx : nx ≤ s2.nx
  obj : ∀ l,l ∉ s2.di → getO l s2.objs = getO l objs
theorem finish_inv {s0 s s2 : St} {v : V} {res : List ResultVar} (h : finish τ res s = some (v,s2)) (k : Inv s0 s) : InvO s0.objs s0.nx s2 := by
  obtain ⟨nt,tmps,objs,nx,df,wr,di,mv⟩ := s
  unfold finish at h
  simp only at h
  split at h
  · rename_i objs' hc
    split at h
    · cases h
      refine ⟨k.nx,fun l hl => ?_⟩
      simp only [List.mem_append,not_or] at hl
      exact (closeM_get hc hl.1).trans (k.obj l hl.2)
    · cases h
  · cases h
where
  closeM_get : ∀ {df : List Df} {objs objs' : Objs} {l : Nat},closeM df objs = some objs' → l ∉ dfKeys df → getO l objs' = getO l objs
    | [],_,_,_,h,_ => by cases h;rfl
    | .mark k :: r,objs,objs',l,h,hn => by
      simp only [closeM] at h
      simp only [dfKeys,List.mem_cons,not_or] at hn
      split at h
      · rw [closeM_get h hn.2,getO_cons,if_neg (Ne.symm hn.1)]
      · cases h
    | .fn _ _ :: _,_,_,_,h,_ => by cases h
theorem backC_inv {s s2 s3 : St} (h : backC s s2 = some s3) (k : InvO s.objs s.nx s2) : Inv s s3 := by
  obtain ⟨nt,tmps,objs,nx,df,wr,di,mv⟩ := s
  obtain ⟨nt2,tmps2,objs2,nx2,df2,wr2,di2,mv2⟩ := s2
  unfold backC at h
  have ho : ∀ l,l ∉ di2 ++ di → getO l objs2 = getO l objs := fun l hl => k.obj l fun hm => hl (List.mem_append_left _ hm)
  cases mv2 with
  | nil =>
    cases h
    exact ⟨rfl,k.nx,fun _ h => h,fun l hl => List.mem_append_right _ hl,fun _ h => h,fun _ _ => rfl,ho,fun _ => rfl⟩
  | cons l M =>
    simp only at h
    split at h
    · cases h
      exact ⟨rfl,k.nx,fun t ht => List.mem_append_right _ ht,fun l hl => List.mem_append_right _ hl,fun _ h => List.mem_append_right _ h,
        fun t ht => look_hit fun hm => ht (List.mem_append_left _ hm),ho,fun _ => rfl⟩
    · cases h
end Go.Proofs.YtldikbpclaeajaaGreatDoor
namespace Go.Proofs.YtldikbpclaeajaaGreatDoor
open Go
set_option linter.unusedVariables false
variable {P : Program} {τ : TyTab} {κ : ConTab} {E : Env} {objs : Objs}
def itoaB (i : Int) : List Int := (Lib.itoa i).map fun b => (b.toNat : Int)
def sortedBy {α : Type} (f : α → α → Int) (l : List α) : Prop := l.Pairwise fun a b => ¬ f b a < 0
inductive Sp where
  | appInt
  | sort (T : Ty) (c : Nat) (pre : T.den → T.den → Prop) (f : T.den → T.den → Int)
def RowCall (P : Program) (g : FuncId) (T : Ty) (xs : List T.den) (args : List Value) (mv : Bool) (R : List T.den → Prop) (v : Nat → V) : Prop :=
  ∀ (E : Env) (objs : Objs) (l : Nat) (L : Loc),Good P E objs → getO l objs = some (.row T xs) → E.loc l = some L →
    Calls P g (L.v :: args).toArray E.w fun e w2 => ∃ u E' ys,e = .returned u ∧ E'.w = w2 ∧ R ys ∧ Good P E' (edit objs (some (l,.row T ys,mv))) ∧ Step E objs E' (edit objs (some (l,.row T ys,mv))) (moved (some (l,.row T ys,mv))) ∧ E.w.drawn ≤ w2.drawn ∧ Rep P E' (v l) u
def appOb (i : Int) (bs : List Int) : Prop := fits .i64 i ∧ bs.length + 21 ≤ 140737488355328
def sortOb {α : Type} (pre : α → α → Prop) (xs : List α) : Prop := xs.length < 4611686018427387904 ∧ ∀ a ∈ xs,∀ b ∈ xs,pre a b
def Sp.Ok (P : Program) (g : FuncId) : Sp → Prop
  | .appInt => CallOk P g ∧ ∀ (bs : List (Ty.int .u8).den) (i : Int),appOb i bs → RowCall P g (.int .u8) bs [.int .i64 i,.int .i64 10] true (fun ys => ys = bs ++ itoaB i) .osl
  | .sort T c pre f => CallOk P g ∧ ∀ xs : List T.den,sortOb pre xs → RowCall P g T xs [.func (.func c) #[] #[]] false (fun ys => xs.Perm ys ∧ sortedBy f ys) fun _ => .tup []
def spEdit (s : St) (l : Nat) (o : Obj) (mv : Bool) (k : St → Prop) : Prop := match edOk s.nx s.df (some (l,o,mv)) with
  | true => k (s.edit (some (l,o,mv)))
  | false => False
def spW : Sp → List V → St → (V → St → Prop) → Prop
  | .appInt,args,s,k => match args with
    | [.osl l,.d (.int .i64) i,.d (.int .i64) (.ofNat b)] => match Nat.beq b 10 with
      | true => match getO l s.objs with
        | some (.row (.int .u8) bs) => appOb i bs ∧ spEdit s l (.row (.int .u8) (bs ++ itoaB i)) true (k (.osl l))
        | _ => False
      | false => False
    | _ => False
  | .sort T c pre f,args,s,k => match args with
    | [.osl l,.fn (.func g) [] []] => match Nat.beq g c with
      | true => match getO l s.objs with
        | some (.row T' xs) => if h : T' = T then sortOb pre (h ▸ xs) ∧ ∀ ys : List T.den,((h ▸ xs : List T.den).Perm ys ∧ sortedBy f ys) → spEdit s l (.row T ys) false (k (.tup [])) else False
        | _ => False
      | false => False
    | _ => False
inductive FX where
  | fi (f : FI)
  | sp (s : Sp)
def FX.Ok (P : Program) (g : FuncId) : FX → Prop
  | .fi f => f.Ok P g
  | .sp s => s.Ok P g
theorem spEdit_ok {cx : Cx} {s : St} {a : Act} {T : Ty} {xs : List T.den} {l : Nat} {mv : Bool} {k : V → St → Prop} {vf : Nat → V} {g : FuncId} {args : List Value} {Rr : List T.den → Prop} (hc : RowCall P g T xs args mv Rr vf) (ho : getO l s.objs = some (.row T xs)) (r : RelE P cx s a E)
    (hk : ∀ ys,Rr ys → spEdit s l (.row T ys) mv (k (vf l))) {c : Value} (rc : Rep P E (.osl l) c) :
    ∀ R : Ending → World → Prop,(∀ u v s3 E',Inv s s3 → k v s3 → RelE P cx s3 a E' → Rep P E' v u → (∀ l L,l ∉ s3.mv → E.loc l = some L → E'.loc l = some L) → R (.returned u) E'.w) → CallsIn (fz none) 0 P g (c :: args).toArray E.w R := by
  intro R hR
  cases rc with
  | osl hL =>
    rename_i L
    refine fz_calls (Calls.mono (hc E s.objs l L r.good ho hL) ?_)
    rintro e w2 ⟨u,E',ys,rfl,rfl,hy,g',st,hd,hu⟩
    have h := hk ys hy
    unfold spEdit at h
    split at h
    · rename_i hed
      refine hR u (vf l) _ E' (Inv.edit s _) h (RelE.edit r hed hd g' st) hu (fun l' L' hl' hL' => st.ext.loc l' L' (fun hm => hl' ?_) hL')
      obtain ⟨nt,tmps,objs,nx,df,wr,di,m⟩ := s
      cases mv with
      | false => simp [moved] at hm
      | true =>
        simp only [moved,List.mem_singleton] at hm
        subst hm
        simp [St.edit,St.subst]
    · exact h.elim
theorem intV_inv {k : IntKind} {n : Int} {c : Value} (r : Rep P E (.d (.int k) n) c) : c = .int k n := by
  cases r with | d h => exact (List.cons.inj (show [c] = [Value.int k n] from h)).1
theorem spW_ok {sp : Sp} {g : FuncId} (hok : sp.Ok P g) {args : List V} {s : St} {k : V → St → Prop} (h : spW sp args s k) {cx : Cx} {a : Act} (r : RelE P cx s a E) {cs : List Value} (ra : Reps P E args cs) :
    CallOk P g ∧ ∀ R : Ending → World → Prop,(∀ u v s3 E',Inv s s3 → k v s3 → RelE P cx s3 a E' → Rep P E' v u → (∀ l L,l ∉ s3.mv → E.loc l = some L → E'.loc l = some L) → R (.returned u) E'.w) → CallsIn (fz none) 0 P g cs.toArray E.w R := by
  cases sp with
  | appInt =>
    obtain ⟨hc,hok⟩ := hok
    refine ⟨hc,?_⟩
    simp only [spW] at h
    split at h
    · rename_i l i b
      split at h
      · rename_i hb
        have hb := Nat.eq_of_beq_eq_true hb
        subst hb
        split at h
        · rename_i bs ho
          obtain ⟨h1,h2⟩ := h
          match cs,ra with
          | [c,d,e],ra =>
            have r1 := ra.head
            have e2 := intV_inv ra.tail.head
            have e3 := intV_inv ra.tail.tail.head
            subst e2 e3
            exact spEdit_ok (hok bs i h1) ho r (fun ys hy => by subst hy;exact h2) r1
          | [],ra => exact absurd ra.1 (by simp)
          | [_],ra => exact absurd ra.1 (by simp)
          | [_,_],ra => exact absurd ra.1 (by simp)
          | _ :: _ :: _ :: _ :: _,ra => exact absurd ra.1 (by simp)
        · exact h.elim
      · exact h.elim
    · exact h.elim
  | sort T c pre f =>
    obtain ⟨hc,hok⟩ := hok
    refine ⟨hc,?_⟩
    simp only [spW] at h
    split at h
    · rename_i l g2
      split at h
      · rename_i hb
        have hb := Nat.eq_of_beq_eq_true hb
        subst hb
        split at h
        · rename_i T' xs ho
          split at h
          · rename_i hT
            subst hT
            obtain ⟨h1,h2⟩ := h
            match cs,ra with
            | [c,d],ra =>
              have r1 := ra.head
              have e2 : d = .func (.func g2) #[] #[] := by
                obtain ⟨p,q,rfl,k1,k2⟩ := fn_inv ra.tail.head
                have : p = #[] := by have := k1.1;simpa using this
                subst this
                have : q = #[] := by have := k2.1;simpa using this
                subst this;rfl
              subst e2
              exact spEdit_ok (hok xs h1) ho r (fun ys hy => h2 ys hy) r1
            | [],ra => exact absurd ra.1 (by simp)
            | [_],ra => exact absurd ra.1 (by simp)
            | _ :: _ :: _ :: _,ra => exact absurd ra.1 (by simp)
          · exact h.elim
        · exact h.elim
      · exact h.elim
    · exact h.elim
end Go.Proofs.YtldikbpclaeajaaGreatDoor
namespace Go.Proofs.YtldikbpclaeajaaGreatDoor
open Go
set_option linter.unusedVariables false
variable {P : Program} {τ : TyTab} {κ : ConTab} {φ : Nat → Option FX}
inductive Gh where
  | own (t : Nat) (T : Ty)
  | ownc (l j : Nat) (T : Ty)
  | frz (t : Nat)
  | frzc (l j : Nat)
  | frzl (l : Nat)
  | zero (t : Nat)
  | part (t : Nat)
  | cases (t j n : Nat)
  | data (t : Nat) (T : Ty)
  | opn (l : Nat)
  | cls (l : Nat)
  | dne (l : Nat)
  | ren (n k : Nat)
inductive An where
  | mk (gs : List (Nat × List Gh)) (lps : List (Nat × LA)) (jns : List (Nat × LA)) (un : List (Nat × Nat)) (cs : List (Nat × An))
def An.none : An := .mk [] [] [] [] []
def find {α : Type} (n : Nat) : List (Nat × α) → Option α
  | [] => .none
  | (m,x) :: r => match Nat.beq m n with
    | true => some x
    | false => find n r
def An.gs : An → Nat → List Gh
  | .mk g _ _ _ _,n => match find n g with
    | some l => l
    | .none => []
def An.lp : An → Nat → Option LA
  | .mk _ l _ _ _,n => find n l
def An.jn : An → Nat → Option LA
  | .mk _ _ l _ _,n => find n l
def An.un : An → Nat → Option Nat
  | .mk _ _ _ l _,n => find n l
def An.call : An → Nat → An
  | .mk _ _ _ _ l,n => match find n l with
    | some a => a
    | .none => An.none
def lookY (l : Nat) (Y : List (Nat × An)) : An := match find l Y with
  | some a => a
  | .none => An.none
abbrev RunT := An → List (Nat × An) → Bool → Code → St → (Exit → St → Prop) → Prop
def RunOk (P : Program) (run : RunT) : Prop := ∀ (A : An) (Y : List (Nat × An)) (r : Option Nat) (c : Code) (s : St) (k : Exit → St → Prop) (cx : Cx) (R : Post),run A Y r.isSome c s k → ∀ a w,Rel P cx s a w →
  (∀ e s' a' w',Inv s s' → k e s' → Rel P cx s' a' w' → R e a' w') → c.wpIn (fz r) 0 P R a w
def isEnd : Exit → Bool
  | .normal => true
  | .ret => true
  | _ => false
def callF (τ : TyTab) (φ : Nat → Option FX) (run : RunT) (A : An) (Y : List (Nat × An)) (f : V) (args : List V) (s : St) (k : V → St → Prop) : Prop := match f with
  | .fn (.func g) fst caps => match φ g with
    | .none => False
    | some (.sp sp) => match fst with
      | [] => match caps with
        | [] => spW sp args s k
        | _ => False
      | _ => False
    | some (.fi ⟨nt,res,code⟩) => match fst ++ (args ++ caps) with
      | vs => match Nat.ble vs.length nt with
        | false => False
        | true => match s with
          | ⟨nt0,tmps,objs,nx,df,wr,di,mv⟩ => run A Y false code ⟨nt,argTmps 0 vs,objs,nx,[],[],[],[]⟩ (fun e s1 => match isEnd e with
            | true => match finish τ res s1 with
              | .none => False
              | some (v,s2) => match backC ⟨nt0,tmps,objs,nx,df,wr,di,mv⟩ s2 with
                | .none => False
                | some s3 => k v s3
            | false => False)
  | _ => False
theorem backC_mv {s s2 s3 : St} (h : backC s s2 = some s3) : ∀ l ∈ s2.mv,l ∈ s3.mv := by
  obtain ⟨nt,tmps,objs,nx,df,wr,di,mv⟩ := s
  obtain ⟨nt2,tmps2,objs2,nx2,df2,wr2,di2,mv2⟩ := s2
  unfold backC at h
  cases mv2 with
  | nil => cases h;exact fun l hl => absurd hl (by simp)
  | cons l M =>
    simp only at h
    split at h
    · cases h;exact fun k hk => List.mem_append_left _ hk
    · cases h
theorem callF_ok (hτ : TabOk P τ) (hφ : ∀ g fi, φ g = some fi → fi.Ok P g) {run : RunT} (hrun : RunOk P run) {A : An} {Y : List (Nat × An)} {f : V} {args : List V} {s : St} {k : V → St → Prop} (h : callF τ φ run A Y f args s k) {cx : Cx} {a : Act} {E : Env}
    (r : RelE P cx s a E) {c : Value} {cs : List Value} (rf : Rep P E f c) (ra : Reps P E args cs) :
    ∃ g p q,c = .func (.func g) p q ∧ CallOk P g ∧ ∀ R : Ending → World → Prop,(∀ u v s3 E',Inv s s3 → k v s3 → RelE P cx s3 a E' → Rep P E' v u → (∀ l L,l ∉ s3.mv → E.loc l = some L → E'.loc l = some L) → R (.returned u) E'.w) → CallsIn (fz none) 0 P g (p ++ cs.toArray ++ q) E.w R := by
  unfold callF at h
  split at h
  · rename_i g fst caps
    split at h
    · exact h.elim
    · rename_i sp hg
      split at h
      · split at h
        · obtain ⟨h1,h2⟩ := spW_ok (hφ g _ hg) h r ra
          obtain ⟨p,q,rfl,rp,rq⟩ := fn_inv rf
          have : p = #[] := by have := rp.1;simpa using this
          subst this
          have : q = #[] := by have := rq.1;simpa using this
          subst this
          exact ⟨g,#[],#[],rfl,h1,fun R hR => by simpa using h2 R hR⟩
        · exact h.elim
      · exact h.elim
    · rename_i nt res code hg
      have hok : FI.Ok P g ⟨nt,res,code⟩ := hφ g _ hg
      obtain ⟨fn,h1,h2,h3,h4,h5⟩ := id hok
      obtain ⟨p,q,rfl,rp,rq⟩ := fn_inv rf
      refine ⟨g,p,q,rfl,hok.call,fun R hR => ?_⟩
      simp only at h
      split at h
      · exact h.elim
      · rename_i hlen
        obtain ⟨nt0,tmps,objs,nx,df,wr,di,mv⟩ := s
        simp only at h h3 h4
        have rs : Reps P E (fst ++ (args ++ caps)) (p ++ cs.toArray ++ q).toList := by
          have := rp.append (ra.append rq)
          simpa using this
        have hrel := enter_rel (nt := nt) r.good r.fresh rs (Nat.le_of_ble_eq_true hlen)
        refine callsIn_of_wp_marks h1 h2 trivial ?_
        rw [h3]
        refine hrun A Y none code _ _ ⟨E,objs⟩ _ h _ E.w hrel (fun e s1 a1 w1 hi hk hr1 => ?_)
        have fin : isEnd e = true → LeavesInM (fz none) 0 P fn a1.tmps R a1.defers .returning w1 := fun he => by
          rw [he] at hk
          simp only at hk
          split at hk
          · exact hk.elim
          · rename_i v s2 hf
            split at hk
            · exact hk.elim
            · rename_i s3 hb
              refine leave_ok hτ (fi := ⟨nt,res,code⟩) h4 hf hr1 (fun u E' haft hu => ?_)
              exact hR u v s3 E' (backC_inv hb (finish_inv (s0 := ⟨nt,argTmps 0 (fst ++ (args ++ caps)),objs,nx,[],[],[],[]⟩) hf hi)) hk (backC_rel r hb haft) hu (fun l L hl hL => haft.step.ext.loc l L (fun hm => hl (backC_mv hb l hm)) hL)
        cases e with
        | normal => exact fin rfl
        | ret => exact fin rfl
        | _ => exact hk.elim
  · exact h.elim
def zipP (nt : Nat) : List Nat → List V → Option (List (Nat × V))
  | [],vs => match vs with
    | [] => some []
    | _ => .none
  | p :: ps,vs => match vs with
    | v :: r => match Nat.blt p nt with
      | true => match zipP nt ps r with
        | some l => some (l ++ [(p,v)])
        | .none => .none
      | false => .none
    | [] => .none
def rjOf : Exit → Option RJ
  | .normal => some .no
  | .ret => some .ret
  | .exit i => some (.exit i)
  | _ => .none
def RJ.isNo : RJ → Bool
  | .no => true
  | _ => false
def RJ.st : RJ → LoopState
  | .no => .ready
  | _ => .done
def recY (l : Nat) (di1 di3 : List Nat) (j : RJ) (nt : Nat) (tmps : List (Nat × V)) (ps : List Nat) (a b : Code) (nt4 : Nat) (tmps4 : List (Nat × V)) (ps4 : List Nat) (a4 b4 : Code) : Obj × List Nat := match memN l di1 with
  | true => (.lrec nt4 tmps4 ps4 a4 b4 j.st j,l :: (di3 ++ di1))
  | false => match memN l di3 with
    | true => (.lrec nt4 tmps4 ps4 a4 b4 j.st j,l :: (di3 ++ di1))
    | false => match j with
      | .no => (.lrec nt tmps ps a b .ready .no,di3 ++ di1)
      | j => (.lrec nt4 tmps4 ps4 a4 b4 j.st j,l :: (di3 ++ di1))
def yieldW (run : RunT) (Y : List (Nat × An)) (l : Nat) (args : List V) (s : St) (k : V → St → Prop) : Prop := match s with
  | ⟨nt0,tmps0,objs,nx,df,wr,di,mv⟩ => match getO l objs with
    | some (.lrec nt tmps ps assign body .ready .no) => match zipP nt ps args with
      | .none => False
      | some pa => match lookY l Y with
        | A => run A Y true assign ⟨nt,pa ++ tmps,objs,nx,[],[],[],[]⟩ (fun e s1 => match e with
          | .normal => match s1 with
            | ⟨nt1,tmps1,objs1,nx1,df1,wr1,di1,mv1⟩ => match memN l mv1 with
              | true => False
              | false => match getO l objs1 with
                | some (.lrec nt2 tmps2 ps2 a2 b2 .ready j2) => run A Y true body ⟨nt1,tmps1,(l,.lrec nt2 tmps2 ps2 a2 b2 .busy j2) :: objs1,nx1,df1,[],[],mv1⟩ (fun e s2 => match rjOf e with
                  | .none => False
                  | some j => match s2 with
                    | ⟨_,_,objs3,nx3,_,_,di3,mv3⟩ => match memN l mv3 with
                      | true => False
                      | false => match getO l objs3 with
                        | some (.lrec nt4 tmps4 ps4 a4 b4 _ _) => match recY l di1 di3 j nt tmps ps assign body nt4 tmps4 ps4 a4 b4 with
                          | (o4,di4) => match backC ⟨nt0,tmps0,objs,nx,df,wr,di,mv⟩ ⟨0,[],(l,o4) :: objs3,nx3,[],[],di4,mv3⟩ with
                            | .none => False
                            | some s3 => k (.d .bool j.isNo) s3
                        | _ => False)
                | _ => False
          | _ => False)
    | _ => False
theorem Good.lrec {E : Env} {objs : Objs} (g : Good P E objs) {l : Nat} {L : Loc} {nt : Nat} {tmps : List (Nat × V)} {ps : List Nat} {a b : Code} {st st' : LoopState} {j j' : RJ} (ho : getO l objs = some (.lrec nt tmps ps a b st j)) (hL : E.loc l = some L) :
    ∃ r : Loop,E.w.heap[L.b]? = some (.loop r) ∧ r.tmps.size = nt ∧ (∀ t,Rep P E (look t tmps) (r.tmps.getD t undef)) ∧ r.params.toList = ps ∧ r.assign = a ∧ r.body = b ∧ r.state = st ∧ r.pending = j.code ∧
      ∃ E',E'.w = E.w.putObj L.b (.loop { r with state := st',pending := j'.code }) ∧ E'.S = E.S ∧ E'.loc = E.loc ∧ Good P E' ((l,.lrec nt tmps ps a b st' j') :: objs) ∧ Step E objs E' ((l,.lrec nt tmps ps a b st' j') :: objs) [] := by
  obtain ⟨K,hK,hat⟩ := g.at_ l _ ho
  rw [hL] at hK;cases hK
  obtain ⟨r,h1,h2,h3,h4,h5,h6,h7,h8⟩ := hat
  refine ⟨r,h1,h2,h3,h4,h5,h6,h7,h8,?_⟩
  have hlt : L.b < E.w.heap.size := (Array.getElem?_eq_some_iff.1 h1).1
  have hgr : E.w.grownBy (E.w.putObj L.b (.loop { r with state := st',pending := j'.code })) (some L.b) := grownBy_putObj' _ _ _
  have e : E.setL (E.w.putObj L.b (.loop { r with state := st',pending := j'.code })) l L = ⟨E.w.putObj L.b (.loop { r with state := st',pending := j'.code }),E.S,E.loc⟩ := by
    simp only [Env.setL]
    congr 1
    funext j
    split
    · rename_i e;subst e;exact hL.symm
    · rfl
  have hx : Ext E (E.setL (E.w.putObj L.b (.loop { r with state := st',pending := j'.code })) l L) [] := put_ext g ho hL hgr (fun b e => by cases e;exact ⟨trivial,rfl⟩) (fun _ => rfl)
  have hp := Good.put g (mv := false) (o' := .lrec nt tmps ps a b st' j') (L' := L) ho hL hgr (fun b e => by cases e; exact ⟨trivial, rfl⟩) (fun _ => rfl)
    ⟨{ r with state := st',pending := j'.code },World.putObj_heap_same hlt,h2,fun t => (h3 t).mono hx,h4,h5,h6,rfl,rfl⟩ (fun _ => .inl ⟨trivial,rfl⟩)
  rw [e] at hp
  exact ⟨⟨E.w.putObj L.b (.loop { r with state := st',pending := j'.code }),E.S,E.loc⟩,rfl,rfl,rfl,hp.1,by simpa [moved,edit] using hp.2⟩
theorem zipP_ok {nt : Nat} {E : Env} {tmps : List (Nat × V)} : ∀ {ps : List Nat} {vs : List V} {pa : List (Nat × V)} {cs : List Value} {ta : Array Value}, zipP nt ps vs = some pa → Reps P E vs cs → ta.size = nt → (∀ t, Rep P E (look t tmps) (ta.getD t undef)) →
    ps.length = cs.length ∧ ((ps.zip cs).foldl (fun t (p,v) => t.setIfInBounds p v) ta).size = nt ∧ ∀ t,Rep P E (look t (pa ++ tmps)) (((ps.zip cs).foldl (fun t (p,v) => t.setIfInBounds p v) ta).getD t undef)
  | [],vs,pa,cs,ta,h,r,hs,ht => by
    simp only [zipP] at h
    split at h
    · cases h
      have : cs = [] := List.eq_nil_of_length_eq_zero (by simpa using r.1)
      subst this
      exact ⟨rfl,hs,ht⟩
    · cases h
  | p :: ps,vs,pa,cs,ta,h,r,hs,ht => by
    simp only [zipP] at h
    split at h
    · rename_i v rest
      split at h
      · rename_i hp
        split at h
        · rename_i l hl
          cases h
          have hp : p < nt := Nat.le_of_ble_eq_true hp
          match cs,r with
          | [],r => exact absurd r.1 (by simp)
          | c :: cs,r =>
            have ih := zipP_ok (tmps := (p,v) :: tmps) (ta := ta.setIfInBounds p c) hl r.tail (by simpa using hs) (fun t => by
              rw [look_cons]
              simp only [Array.getD_eq_getD_getElem?,Array.getElem?_setIfInBounds]
              split
              · rename_i e
                subst e
                simp [show p < ta.size from by omega]
                exact r.head
              · have := ht t
                rwa [Array.getD_eq_getD_getElem?] at this)
            refine ⟨by simp [ih.1],ih.2.1,fun t => ?_⟩
            have := ih.2.2 t
            simpa using this
        · cases h
      · cases h
    · cases h
theorem rj_none {j : RJ} : j.code.isNone = j.isNo := by cases j <;> rfl
theorem yieldW_ok {run : RunT} (hrun : RunOk P run) {Y : List (Nat × An)} {l : Nat} {args : List V} {s : St} {k : V → St → Prop} (h : yieldW run Y l args s k) {cx : Cx} {a : Act} {E : Env}
    (r : RelE P cx s a E) {c : Value} {cs : Array Value} (rl : Rep P E (.yl l) c) (ra : Reps P E args cs.toList) (ro : Option Nat) :
    ∃ (b fn : Nat) (tmps : Array Value) (assign body : Code),c = .func (.yield b) #[] #[] ∧ (Instr.yield b cs).run P E.w = .ok (.round b fn tmps assign body) E.w ∧ ∀ R : Ending → World → Prop,
      (∀ u v s3 E',Inv s s3 → k v s3 → RelE P cx s3 a E' → Rep P E' v u → R (.returned u) E'.w) → RoundIn (fz ro) 0 P b fn tmps assign body E.w R := by
  obtain ⟨nt0,tmps0,objs,nx,df,wr,di,mv⟩ := s
  unfold yieldW at h
  simp only at h
  split at h
  · rename_i nt tmps ps assign body ho
    split at h
    · exact h.elim
    · rename_i pa hpa
      cases rl with
      | yl hL =>
        rename_i L
        obtain ⟨K,hK,hat⟩ := r.good.at_ l _ ho
        rw [hL] at hK;cases hK
        obtain ⟨rc,h1,h2,h3,h4,h5,h6,h7,h8⟩ := hat
        obtain ⟨z1,z2,z3⟩ := zipP_ok hpa ra h2 h3
        have hsz : cs.size = rc.params.size := by
          have : rc.params.toList.length = cs.toList.length := by rw [h4];exact z1
          simpa using this.symm
        refine ⟨L.b,rc.fn,_,rc.assign,rc.body,rfl,run_yield h1 hsz,fun R hR => ?_⟩
        refine roundIn_of_wpIn trivial ?_
        rw [h5]
        have hstart : Rel P ⟨E,objs⟩ ⟨nt,pa ++ tmps,objs,nx,[],[],[],[]⟩ { tmps := (rc.params.zip cs).foldl (fun tmps (t,a) => tmps.setIfInBounds t a) rc.tmps,defers := [] } E.w := by
          have e : (rc.params.zip cs).foldl (fun (tmps : Array Value) (x : Nat × Value) => tmps.setIfInBounds x.1 x.2) rc.tmps = (ps.zip cs.toList).foldl (fun (t : Array Value) (x : Nat × Value) => t.setIfInBounds x.1 x.2) rc.tmps := by
            rw [← Array.foldl_toList,Array.toList_zip,h4]
          refine ⟨E,rfl,r.good,r.fresh,.refl _ _ _,Nat.le_refl _,?_,rfl,fun t => ?_⟩
          · show ((rc.params.zip cs).foldl (fun (tmps : Array Value) (x : Nat × Value) => tmps.setIfInBounds x.1 x.2) rc.tmps).size = nt
            rw [e];exact z2
          · show Rep P E (look t (pa ++ tmps)) (((rc.params.zip cs).foldl (fun (tmps : Array Value) (x : Nat × Value) => tmps.setIfInBounds x.1 x.2) rc.tmps).getD t undef)
            rw [e];exact z3 t
        refine hrun _ Y (some L.b) assign _ _ ⟨E,objs⟩ _ h _ E.w hstart (fun e s1 a1 w1 hi1 hk1 hr1 => ?_)
        cases e <;> try (exact hk1.elim)
        obtain ⟨nt1,tmps1,objs1,nx1,df1,wr1,di1,mv1⟩ := s1
        simp only at hk1
        split at hk1
        · exact hk1.elim
        · rename_i hm1
          split at hk1
          · rename_i nt2 tmps2 ps2 a2 b2 j2 ho1
            obtain ⟨E1,rfl,r1⟩ := hr1
            have nm : ∀ {M : List Nat},memN l M = false → l ∉ M := fun h hm => by rw [memN_iff.2 hm] at h;cases h
            have hL1 : E1.loc l = some L := r1.step.ext.loc l L (nm hm1) hL
            obtain ⟨q,q1,q2,q3,q4,q5,q6,q7,q8,E2,e1,e2,e3,g2,s2⟩ := Good.lrec (st' := .busy) (j' := j2) r1.good ho1 hL1
            have hw2 : E1.w.putObj L.b (.loop { q with state := .busy }) = E2.w := by
              rw [e1];congr 2;rw [← q8]
            refine ⟨E2.w,by rw [← hw2];exact run_beginRound q1 q7,?_⟩
            rw [h6]
            have hmid : Rel P ⟨E,objs⟩ ⟨nt1,tmps1,(l,.lrec nt2 tmps2 ps2 a2 b2 .busy j2) :: objs1,nx1,df1,[],[],mv1⟩ a1 E2.w :=
              ⟨E2,rfl,g2,fun j hj => by rw [e3];exact r1.fresh j hj,r1.step.trans s2,by rw [e1];exact r1.drawn,r1.size,r1.df.ext s2.ext,fun t => (r1.rep t).mono s2.ext⟩
            refine hrun _ Y (some L.b) body _ _ ⟨E,objs⟩ _ hk1 _ _ hmid (fun e s4 a3 w3 hi2 hk2 hr2 => ?_)
            obtain ⟨ntz,tmpsz,objs3,nx3,dfz,wrz,di3,mv3⟩ := s4
            have fin : ∀ j : RJ,rjOf e = some j → ∃ v w',(Instr.endRound L.b j.code).run P w3 = .ok v w' ∧ R (.returned v) w' := by
              intro j hj
              rw [hj] at hk2
              simp only at hk2
              split at hk2
              · exact hk2.elim
              · rename_i hm3
                split at hk2
                · rename_i nt4 tmps4 ps4 a4 b4 _ _ ho3
                  generalize hrec : recY l di1 di3 j nt tmps ps assign body nt4 tmps4 ps4 a4 b4 = od at hk2
                  obtain ⟨o4,di4⟩ := od
                  simp only at hk2
                  split at hk2
                  · exact hk2.elim
                  · rename_i s3 hb
                    obtain ⟨E3,rfl,r3⟩ := hr2
                    have hL3 : E3.loc l = some L := r3.step.ext.loc l L (nm hm3) hL
                    obtain ⟨p,p1,p2,p3,p4,p5,p6,p7,p8,E4,f1,f2,f3,g4,st4⟩ := Good.lrec (st' := j.st) (j' := j) r3.good ho3 hL3
                    have hw4 : E3.w.putObj L.b (.loop { p with state := if j.code.isNone then .ready else .done,pending := j.code }) = E4.w := by
                      rw [f1];congr 2;cases j <;> rfl
                    refine ⟨.bool j.isNo,E4.w,by rw [← hw4,← rj_none];exact run_endRound j.code p1,?_⟩
                    have hnx : nx ≤ nx3 := by
                      have h1 : nx ≤ nx1 := hi1.nx
                      have h2 : nx1 ≤ nx3 := hi2.nx
                      exact Nat.le_trans h1 h2
                    have hoth : ∀ l',l' ≠ l → l' ∉ di3 → l' ∉ di1 → getO l' objs3 = getO l' objs := fun l' hne h3 h1 => by
                      have k1 := hi2.obj l' h3
                      have k2 := hi1.obj l' h1
                      simp only at k1 k2
                      rw [k1,getO_cons,if_neg (Ne.symm hne),k2]
                    have hcase : (o4 = .lrec nt4 tmps4 ps4 a4 b4 j.st j ∧ l ∈ di4 ∧ (∀ l',l' ∉ di4 → l' ≠ l ∧ l' ∉ di3 ∧ l' ∉ di1)) ∨ (o4 = .lrec nt4 tmps4 ps4 a4 b4 j.st j ∧ o4 = .lrec nt tmps ps assign body .ready .no ∧ ∀ l',l' ∉ di4 → l' ∉ di3 ∧ l' ∉ di1) := by
                      have hd1 : o4 = .lrec nt4 tmps4 ps4 a4 b4 j.st j → di4 = l :: (di3 ++ di1) → (o4 = .lrec nt4 tmps4 ps4 a4 b4 j.st j ∧ l ∈ di4 ∧ (∀ l',l' ∉ di4 → l' ≠ l ∧ l' ∉ di3 ∧ l' ∉ di1)) := fun e1 e2 => by
                        subst e2
                        refine ⟨e1,by simp,fun l' hl' => ?_⟩
                        simp only [List.mem_cons,List.mem_append,not_or] at hl'
                        exact hl'
                      unfold recY at hrec
                      split at hrec
                      · cases hrec;exact .inl (hd1 rfl rfl)
                      · rename_i hn1
                        split at hrec
                        · cases hrec;exact .inl (hd1 rfl rfl)
                        · rename_i hn3
                          split at hrec
                          · cases hrec
                            have k1 := hi2.obj l (nm hn3)
                            have k2 := hi1.obj l (nm hn1)
                            simp only at k1 k2
                            rw [getO_cons,if_pos rfl,ho3] at k1
                            rw [ho,ho1] at k2
                            cases k1
                            cases k2
                            exact .inr ⟨rfl,rfl,fun l' hl' => by simp only [List.mem_append,not_or] at hl';exact hl'⟩
                          · cases hrec;exact .inl (hd1 rfl rfl)
                    have ho4 : o4 = .lrec nt4 tmps4 ps4 a4 b4 j.st j := hcase.elim (fun h => h.1) (fun h => h.1)
                    refine hR _ _ s3 E4 (backC_inv hb ⟨hnx,fun l' hl' => ?_⟩) hk2 (backC_rel r hb ⟨by rw [ho4];exact g4,fun j hj => by rw [f3];exact r3.fresh j hj,by rw [ho4];exact r3.step.trans st4,by rw [f1];exact r3.drawn⟩) (.mk_bool _)
                    show getO l' ((l,o4) :: objs3) = getO l' objs
                    rw [getO_cons]
                    rcases hcase with ⟨_,_,h⟩ | ⟨_,h1,h⟩
                    · have := h l' hl'
                      rw [if_neg (Ne.symm this.1)]
                      exact hoth l' this.1 this.2.1 this.2.2
                    · have := h l' hl'
                      by_cases e : l = l'
                      · subst e;rw [if_pos rfl,h1,ho]
                      · rw [if_neg e];exact hoth l' (Ne.symm e) this.1 this.2
                · exact hk2.elim
            cases e with
            | normal => exact fin .no rfl
            | ret => exact fin .ret rfl
            | exit i => exact fin (.exit i) rfl
            | _ => exact hk2.elim
          · exact hk1.elim
  · exact h.elim
end Go.Proofs.YtldikbpclaeajaaGreatDoor
namespace Go.Proofs.YtldikbpclaeajaaGreatDoor
open Go
set_option linter.unusedVariables false
variable {P : Program} {τ : TyTab} {κ : ConTab} {φ : Nat → Option FX}
theorem Step.swap {E0 E : Env} {imp objs objs' : Objs} {M : List Nat} (h : Step E0 imp E objs M)
    (tr : ∀ l o,getO l objs' = some o → ∃ o1 L,getO l objs = some o1 ∧ E.loc l = some L ∧ E.loc l = some L ∧ (∀ L,o.has L → o1.has L) ∧ (ObjAt P E L o1 → ObjAt P E L o)) (hn : ∀ l,getO l objs' = none → getO l objs = none) : Step E0 imp E objs' M :=
  ⟨h.ext,h.os,h.tape,h.output,h.size,h.frame,fun b hb => h.own b (ownB_sub (P := P) tr hb),h.st,fun l hl => h.keys l (hn l hl),fun l hl => h.dom l (hn l hl)⟩
def setNth (v : V) : Nat → List V → List V
  | _,[] => []
  | 0,_ :: r => v :: r
  | n + 1,u :: r => u :: setNth v n r
theorem setNth_len {v : V} : ∀ {n : Nat} {l : List V},(setNth v n l).length = l.length
  | _,[] => by cases ‹Nat› <;> rfl
  | 0,_ :: _ => rfl
  | n + 1,_ :: r => by simp only [setNth,List.length_cons,setNth_len]
theorem setNth_get {v : V} : ∀ {n : Nat} {l : List V} (j : Nat),j < l.length → (setNth v n l).getD j .any = if j = n then v else l.getD j .any
  | n,[],j,h => by simp at h
  | 0,u :: r,0,_ => by simp [setNth]
  | 0,u :: r,j + 1,_ => by simp [setNth]
  | n + 1,u :: r,0,_ => by simp [setNth]
  | n + 1,u :: r,j + 1,h => by
    simp only [setNth,List.getD_cons_succ]
    rw [setNth_get j (by simpa using h)]
    by_cases e : j = n
    · simp [e]
    · rw [if_neg e,if_neg (by omega)]
def renF (n k : Nat) (v : V) : V := match v with
  | .osl j => match Nat.beq j n with
    | true => .osl k
    | false => v
  | v => invF n v
def redo (l : Nat) (o : Obj) (s : St) : St := match s with
  | ⟨nt,tmps,objs,nx,df,wr,di,mv⟩ => ⟨nt,tmps,(l,o) :: objs,nx,df,wr,l :: di,mv⟩
def ghost1 : Gh → St → Option St
  | .opn _,_ => none
  | .cls l,s => match getO l s.objs with
    | some (.vrow T xs [v] m) => match pack (.sl T) [v] with
      | some y => some (redo l (.vrow T (xs ++ [y]) [] m) s)
      | none => none
    | _ => none
  | .dne l,s => match getO l s.objs with
    | some (.vrow T xs [] m) => some (redo l (.row (.sl T) (xs ++ List.replicate m [])) s)
    | _ => none
  | .ren n k,s => match getO n s.objs with
    | some (.row T ys) => match getO k s.objs with
      | some .dead => match Nat.beq n k with
        | true => none
        | false => match edOk s.nx s.df (some (k,.row T ys,true)) with
          | true => some ((redo n .dead (s.edit (some (k,.row T ys,true)))).subst n (renF n k))
          | false => none
      | _ => none
    | _ => none
  | .own t T,s => match s with
    | ⟨nt,tmps,objs,nx,df,wr,di,mv⟩ => match look t tmps with
      | .nils => match Nat.blt 0 T.size with
        | true => some ⟨nt,(t,.osl nx) :: tmps,(nx,.row T []) :: objs,nx + 1,df,t :: wr,nx :: di,mv⟩
        | false => none
      | .osl _ => some ⟨nt,tmps,objs,nx,df,wr,di,mv⟩
      | .osp .. => some ⟨nt,tmps,objs,nx,df,wr,di,mv⟩
      | _ => none
  | .ownc l j T,s => match s with
    | ⟨nt,tmps,objs,nx,df,wr,di,mv⟩ => match getO l objs with
      | some (.box cs) => match cs.getD j .any with
        | .nils => match Nat.blt 0 T.size with
          | true => some ⟨nt,tmps,(l,.box (setNth (.osl nx) j cs)) :: (nx,.row T []) :: objs,nx + 1,df,wr,l :: nx :: di,mv⟩
          | false => none
        | .osl _ => some ⟨nt,tmps,objs,nx,df,wr,di,mv⟩
        | _ => none
      | _ => none
  | .frz t,s => some (frzT t 5 s)
  | .frzl l,s => some (s.freeze l)
  | .zero t,s => match look t s.tmps with
    | .osp l lo n => match Nat.beq lo 0 && Nat.beq n 0 with
      | true => match getO l s.objs with
        | some (.row T xs) => match edOk s.nx s.df (some (l,.row T [],true)) with
          | true => match s.edit (some (l,.row T [],true)) with
            | ⟨nt,tmps,objs,nx,df,wr,di,mv⟩ => some ⟨nt,(t,.osl l) :: tmps,objs,nx,df,t :: wr,di,mv⟩
          | false => none
        | _ => none
      | false => none
    | .osl _ => some s
    | .nils => some s
    | _ => none
  | .part _,_ => none
  | .cases ..,_ => none
  | .frzc l j,s => match getO l s.objs with
    | some (.box cs) => match (cs.getD j .any).fk with
      | some k => some (s.freeze k)
      | none => some s
    | _ => none
  | .data t T,s => match s with
    | ⟨nt,tmps,objs,nx,df,wr,di,mv⟩ => match getD T (look t tmps) with
      | some x => some ⟨nt,(t,argV T x) :: tmps,objs,nx,df,t :: wr,di,mv⟩
      | none => none
theorem nils_row {E : Env} {objs : Objs} (g : Good P E objs) {nx : Nat} (hf : E.loc nx = none) {T : Ty} (hT : 0 < T.size) {c : Value} (r : Rep P E .nils c) :
    ∃ E',E'.w = E.w ∧ (∀ l,l ≠ nx → E'.loc l = E.loc l) ∧ Good P E' ((nx,.row T []) :: objs) ∧ Step E objs E' ((nx,.row T []) :: objs) [] ∧ Rep P E' (.osl nx) c := by
  cases r with
  | nils a =>
    refine ⟨E.setL E.w nx ⟨0,a,0,0,T.size⟩,rfl,fun l h => setL_ne _ _ _ h,?_⟩
    have hp := g.push (w := E.w) (l := nx) (L := ⟨0,a,0,0,T.size⟩) (o := .row T []) hf ⟨rfl,rfl,rfl,Nat.le_refl _,fun _ _ _ => rfl⟩ ⟨rfl,hT,rfl,(0 : Nat),[],rfl,.inl ⟨rfl,rfl⟩⟩ (fun h => absurd rfl h)
    exact ⟨hp.1,hp.2,.osl (setL_same _ _ _ _)⟩
theorem look_put {E : Env} {tmps : List (Nat × V)} {a : Act} {t0 : Nat} {v : V} (h : ∀ t,Rep P E (look t tmps) (a.tmps.getD t undef)) (hv : Rep P E v (a.tmps.getD t0 undef)) (t : Nat) : Rep P E (look t ((t0,v) :: tmps)) (a.tmps.getD t undef) := by
  rw [look_cons]
  split
  · rename_i e;subst e;exact hv
  · exact h t
theorem zero_row {E : Env} {objs : Objs} (g : Good P E objs) {l : Nat} {T : Ty} {xs : List T.den} (ho : getO l objs = some (.row T xs)) {c : Value} (r : Rep P E (.osp l 0 0) c) :
    ∃ E',E'.w = E.w ∧ Good P E' (edit objs (some (l,.row T [],true))) ∧ Step E objs E' (edit objs (some (l,.row T [],true))) [l] ∧ Rep P E' (.osl l) c := by
  obtain ⟨L,hL,a,rfl,ha⟩ := osp_inv r
  obtain ⟨K,hK,hat⟩ := g.at_ l _ ho
  rw [hL] at hK;cases hK
  have hp := Good.put g (mv := true) (o' := .row T []) (L' := ⟨L.b,a,0,L.cap,L.esz⟩) (w := E.w) (row := none) ho hL ⟨rfl,rfl,rfl,Nat.le_refl _,fun _ _ _ => rfl⟩ (fun b hb => by cases hb) (fun h => by cases h) (by
    obtain ⟨h1,h2,h3,e,cs,h4,h5⟩ := hat
    refine ⟨h1,h2,rfl,e,[],rfl,?_⟩
    rcases h5 with ⟨h6,h7⟩ | ⟨cur,h6,h7,h8,h9,h10,h11,h12⟩
    · exact .inl ⟨h6,rfl⟩
    · refine .inr ⟨cur,?_,h7,Nat.zero_le _,h9,h10,h11,by simp⟩
      have := ha (by omega)
      simp only [this,h6,Nat.zero_mul]
      rfl) (fun hh => .inl ⟨hh,rfl⟩)
  refine ⟨E.setL E.w l ⟨L.b,a,0,L.cap,L.esz⟩,rfl,hp.1,hp.2,?_⟩
  have : Value.slice a 0 (L.cap - 0) = (⟨L.b,a,0,L.cap,L.esz⟩ : Loc).v := rfl
  rw [this]
  exact .osl (setL_same _ _ _ _)
theorem redo_ok {cx : Cx} {s : St} {a : Act} {E : Env} {l : Nat} {o o' : Obj} (ho : getO l s.objs = some o) (hh : ∀ L,o'.has L → o.has L) (ha : ∀ L,ObjAt P E L o → ObjAt P E L o') (r : RelE P cx s a E) : RelE P cx (redo l o' s) a E := by
  obtain ⟨nt,tmps,objs,nx,df,wr,di,mv⟩ := s
  have ho : getO l objs = some o := ho
  have tr : ∀ l' o1,getO l' ((l,o') :: objs) = some o1 → ∃ o2 L,getO l' objs = some o2 ∧ E.loc l' = some L ∧ E.loc l' = some L ∧ (∀ L,o1.has L → o2.has L) ∧ (ObjAt P E L o2 → ObjAt P E L o1) := fun l' o1 h1 => by
    rw [getO_cons] at h1
    split at h1
    · rename_i e
      subst e
      cases h1
      obtain ⟨L,hL,_⟩ := r.good.at_ l o ho
      exact ⟨o,L,ho,hL,hL,hh,ha L⟩
    · obtain ⟨L,hL,_⟩ := r.good.at_ l' o1 h1
      exact ⟨o1,L,h1,hL,hL,fun _ h => h,fun h => h⟩
  exact ⟨r.good.sub rfl rfl tr,r.fresh,r.step.swap tr (fun l' hl' => (getO_none_cons hl').2),r.drawn,r.size,r.df,r.rep⟩
theorem Inv.redo {l : Nat} {o : Obj} {s : St} : Inv s (redo l o s) := by
  obtain ⟨nt,tmps,objs,nx,df,wr,di,mv⟩ := s
  exact ⟨rfl,Nat.le_refl _,fun _ h => h,fun _ h => List.mem_cons_of_mem _ h,fun _ h => h,fun _ _ => rfl,fun k hk => by
    have hk : k ∉ l :: di := hk
    simp only [List.mem_cons,not_or] at hk
    show getO k ((l,o) :: objs) = _
    rw [getO_cons,if_neg (Ne.symm hk.1)],fun _ => rfl⟩
theorem cls_at {E : Env} {L : Loc} {T : Ty} {xs : List (List T.den)} {v : V} {m : Nat} {y : List T.den} (hy : pack (.sl T) [v] = some y) (h : ObjAt P E L (.vrow T xs [v] m)) : ObjAt P E L (.vrow T (xs ++ [y]) [] m) := by
  obtain ⟨h1,h2,h3,e,cs,h4,h5⟩ := h
  have hlen : L.len = (xs ++ [y]).length + ([] : List V).length + m := by simp only [List.length_append,List.length_cons,List.length_nil] at h3 ⊢;omega
  rcases h5 with h5 | ⟨cur,h5,h6,h7,h8,h9,h10,h11,h12,h13⟩
  · have := h5.2;simp at h3;omega
  · have hlt : xs.length < cur.size := by simp at h3;omega
    have hc : Cells E.w E.S (.sl T) y [cur[xs.length]] := pack_rep hy ⟨rfl,fun j hj => by
      obtain rfl : j = 0 := by simp at hj;exact hj
      have := h12 0 (by simp)
      rw [Array.getD_eq_getD_getElem?,Nat.add_zero,Array.getElem?_eq_getElem hlt] at this
      exact this⟩
    refine ⟨h1,Nat.zero_le _,hlen,e,cs ++ [cur[xs.length]],h4.append ⟨[cur[xs.length]],[],rfl,hc,rfl⟩,.inr ⟨cur,h5,h6,h7,h8,h9,h10,?_,fun j hj => by simp at hj,fun i hi => h13 i (by simpa using hi)⟩⟩
    rw [← h11,List.length_append,List.length_cons,List.length_nil,Nat.zero_add,List.take_add_one,Array.getElem?_toList,Array.getElem?_eq_getElem hlt]
    rfl
theorem nil_cells {w : World} {S : Nat → Prop} {T : Ty} : ∀ m : Nat,CellsL w S (.sl T) (List.replicate m []) (List.replicate m (.slice none 0 0))
  | 0 => rfl
  | m + 1 => ⟨[.slice none 0 0],List.replicate m (.slice none 0 0),by rw [List.replicate_succ];rfl,⟨none,0,rfl,⟨Nat.le_refl _,Nat.zero_le _⟩,fun h => absurd rfl h⟩,nil_cells m⟩
theorem dne_at {E : Env} {L : Loc} {T : Ty} {xs : List (List T.den)} {m : Nat} (h : ObjAt P E L (.vrow T xs [] m)) : ObjAt P E L (.row (.sl T) (xs ++ List.replicate m [])) := by
  obtain ⟨h1,h2,h3,e,cs,h4,h5⟩ := h
  have hlen : L.len = (xs ++ List.replicate m ([] : List T.den)).length := by simp only [List.length_append,List.length_replicate,List.length_nil] at h3 ⊢;omega
  refine ⟨h1,Nat.zero_lt_one,hlen,e,_,h4.append (nil_cells m),?_⟩
  rcases h5 with ⟨h5,h6⟩ | ⟨cur,h5,h6,h7,h8,h9,h10,h11,h12,h13⟩
  · exact .inl ⟨h5,List.eq_nil_of_length_eq_zero (by rw [← hlen];exact h6)⟩
  · refine .inr ⟨cur,h5,h6,by rw [← hlen];exact h7,h8,h9,by rw [h10];exact (Nat.mul_one _).symm,?_⟩
    rw [← hlen,show (Ty.sl T).size = 1 from rfl,Nat.mul_one,← h11]
    have h3 : L.len = xs.length + m := by simpa using h3
    have hcl : (cur.toList.take xs.length).length = xs.length := by simp only [List.length_take,Array.length_toList];omega
    apply List.ext_getElem?
    intro j
    rw [List.getElem?_take]
    split
    · rename_i hj
      rcases Nat.lt_or_ge j xs.length with h | h
      · rw [List.getElem?_append_left (by omega),List.getElem?_take,if_pos h]
      · rw [List.getElem?_append_right (by omega),hcl,List.getElem?_replicate,if_pos (by omega),Array.getElem?_toList]
        exact h13 j (by simpa using h) hj
    · rw [List.getElem?_eq_none]
      rw [List.length_append,hcl,List.length_replicate];omega
theorem ren_ok {cx : Cx} {s : St} {a : Act} {E : Env} {n k : Nat} {T : Ty} {ys : List T.den} (hn : getO n s.objs = some (.row T ys)) (hk : getO k s.objs = some .dead) (hne : n ≠ k) (hed : edOk s.nx s.df (some (k, .row T ys, true)) = true) (r : RelE P cx s a E) :
    ∃ E',E'.w = E.w ∧ RelE P cx ((redo n .dead (s.edit (some (k,.row T ys,true)))).subst n (renF n k)) a E' := by
  obtain ⟨nt,tmps,objs,nx,df,wr,di,mv⟩ := s
  have hn : getO n objs = some (.row T ys) := hn
  have hk : getO k objs = some .dead := hk
  obtain ⟨L,hL,hat⟩ := r.good.at_ n _ hn
  obtain ⟨K,hK,_⟩ := r.good.at_ k _ hk
  have hEn : (E.setL E.w k L).loc n = some L := by rw [setL_ne _ _ _ hne];exact hL
  have hx : Ext E (E.setL E.w k L) [k] := ⟨fun b hb => ⟨hb,rfl⟩,fun j M hj hM => by rw [setL_ne _ _ _ (by simpa using hj)];exact hM⟩
  have hget : ∀ l o,getO l ((n,.dead) :: (k,.row T ys) :: substO (invF k) objs) = some o → (l = n ∧ o = .dead) ∨ (l = k ∧ o = .row T ys) ∨ (l ≠ n ∧ l ≠ k ∧ ∃ q,getO l objs = some q ∧ o = q.subst (invF k)) := fun l o h => by
    rw [getO_cons] at h
    split at h
    · rename_i e;cases h;exact .inl ⟨e.symm,rfl⟩
    · rename_i e1
      rw [getO_cons] at h
      split at h
      · rename_i e;cases h;exact .inr (.inl ⟨e.symm,rfl⟩)
      · rename_i e2
        rw [getO_subst,Option.map_eq_some_iff] at h
        obtain ⟨q,hq,rfl⟩ := h
        exact .inr (.inr ⟨Ne.symm e1,Ne.symm e2,q,hq,rfl⟩)
  have old : ∀ l o M,getO l ((n,.dead) :: (k,.row T ys) :: substO (invF k) objs) = some o → (E.setL E.w k L).loc l = some M → o.has M → l ≠ n ∧ ∃ l' o',getO l' objs = some o' ∧ E.loc l' = some M ∧ o'.has M ∧ l' = (if l = k then n else l) := fun l o M h1 h2 h3 => by
    rcases hget l o h1 with ⟨rfl,rfl⟩ | ⟨rfl,rfl⟩ | ⟨e1,e2,q,hq,rfl⟩
    · exact h3.elim
    · rw [setL_same] at h2;cases h2
      exact ⟨Ne.symm hne,n,_,hn,hL,h3,(if_pos rfl).symm⟩
    · rw [setL_ne _ _ _ e2] at h2
      exact ⟨e1,l,q,hq,h2,Obj.has_subst.1 h3,(if_neg e2).symm⟩
  have ownb : ∀ b,ownB (E.setL E.w k L) ((n,.dead) :: (k,.row T ys) :: substO (invF k) objs) b → ownB E objs b := fun b ⟨l,o,M,h1,h2,h3,h4⟩ => by
    obtain ⟨_,l',o',k1,k2,k3,_⟩ := old l o M h1 h2 h3
    exact ⟨l',o',M,k1,k2,k3,h4⟩
  have none2 : ∀ l,getO l ((n,.dead) :: (k,.row T ys) :: substO (invF k) objs) = none → l ≠ k ∧ getO l objs = none := fun l h => by
    obtain ⟨_,h⟩ := getO_none_cons h
    obtain ⟨h1,h⟩ := getO_none_cons h
    rw [getO_subst] at h
    exact ⟨h1,by simpa using h⟩
  have g1 : Good P (E.setL E.w k L) ((n,.dead) :: (k,.row T ys) :: substO (invF k) objs) := by
    refine ⟨fun l o h => ?_,fun b h => r.good.ns b (ownb b h),r.good.sl,r.good.tab,fun i j p q M M' h1 h2 h3 h4 h5 h6 h7 => ?_⟩
    · rcases hget l o h with ⟨rfl,rfl⟩ | ⟨rfl,rfl⟩ | ⟨e1,e2,q,hq,rfl⟩
      · exact ⟨L,hEn,trivial⟩
      · exact ⟨L,setL_same _ _ _ _,hat⟩
      · obtain ⟨M,hM,ha⟩ := r.good.at_ l q hq
        exact ⟨M,by rw [setL_ne _ _ _ e2];exact hM,ha.keepS (fun v c h => inv_rep hx h) (fun b hb => ⟨hb,rfl⟩) (fun _ => rfl)⟩
    · obtain ⟨n1,i',p',k1,k2,k3,k4⟩ := old i p M h1 h3 h5
      obtain ⟨n2,j',q',m1,m2,m3,m4⟩ := old j q M' h2 h4 h6
      have := r.good.inj i' j' p' q' M M' k1 m1 k2 m2 k3 m3 h7
      rw [k4,m4] at this
      by_cases e1 : i = k
      · by_cases e2 : j = k
        · rw [e1,e2]
        · rw [if_pos e1,if_neg e2] at this;exact absurd this.symm n2
      · by_cases e2 : j = k
        · rw [if_neg e1,if_pos e2] at this;exact absurd this n1
        · rw [if_neg e1,if_neg e2] at this;exact this
  have st1 : Step E objs (E.setL E.w k L) ((n,.dead) :: (k,.row T ys) :: substO (invF k) objs) [k] :=
    ⟨hx,rfl,rfl,rfl,Nat.le_refl _,fun _ _ _ => rfl,fun b hb => .inr (ownb b hb),fun b hb => .inl hb,fun l hl => (none2 l hl).2,fun l hl => setL_ne _ _ _ (none2 l hl).1⟩
  have hkx : k < nx := Nat.lt_of_not_le fun hle => by rw [r.fresh k hle] at hK;cases hK
  have hbump : bump k nx = nx := by
    unfold bump
    split
    · rename_i e;have := Nat.eq_of_beq_eq_true e;omega
    · rfl
  have hm : markIn k df = false := by
    simp only [edOk] at hed
    split at hed
    · simpa using hed
    · cases hed
  have r1 : RelE P cx (redo n .dead (St.edit ⟨nt,tmps,objs,nx,df,wr,di,mv⟩ (some (k,.row T ys,true)))) a (E.setL E.w k L) := by
    refine ⟨g1,fun j hj => ?_,r.step.trans st1,r.drawn,r.size,r.df.moved hx hm,fun t => ?_⟩
    · have hj : bump k nx ≤ j := hj
      rw [hbump] at hj
      rw [setL_ne _ _ _ (by omega)];exact r.fresh j hj
    · show Rep P _ (look t (substT (invF k) tmps)) _
      rw [substT_map,look_subst]
      exact inv_rep hx (r.rep t)
  have hf : ∀ v c,v.isRef = true → Rep P (E.setL E.w k L) v c → Rep P (E.setL E.w k L) (renF n k v) c := fun v c _ h => by
    have hi : Rep P (E.setL E.w k L) (invF n v) c := by
      unfold invF
      split
      · split
        · exact .any _
        · exact h
      · exact h
    unfold renF
    split
    · rename_i j
      split
      · rename_i e
        have e := Nat.eq_of_beq_eq_true e
        subst e
        obtain ⟨M,hM,rfl⟩ := osl_inv h
        rw [hEn] at hM;cases hM
        exact .osl (setL_same _ _ _ _)
      · exact h
    · exact hi
  exact ⟨E.setL E.w k L,rfl,r1.subst hf rfl rfl (fun _ h => h) (r1.good.substO hf) (r1.step.substO (f := renF n k))⟩
theorem renF_ne {n k : Nat} (v : V) (hr : v.isRef = true) (h : v.has n = false) : renF n k v = v := by
  cases v <;> simp only [V.isRef,Bool.false_eq_true] at hr <;> simp only [V.has] at h <;> simp only [renF,invF,V.key,h]
theorem ghost1_wk {cx : Cx} : ∀ {gh : Gh} {s s' : St},ghost1 gh s = some s' → Wk P cx s s'
  | .opn _,s,s',h => by cases h
  | .cls l,s,s',h => by
    simp only [ghost1] at h
    split at h
    · rename_i T xs v m ho
      split at h
      · rename_i y hy
        cases h
        rintro a w ⟨E,rfl,r⟩
        exact ⟨E,rfl,redo_ok ho (fun _ h => h) (fun _ h => cls_at hy h) r⟩
      · cases h
    · cases h
  | .dne l,s,s',h => by
    simp only [ghost1] at h
    split at h
    · rename_i T xs m ho
      cases h
      rintro a w ⟨E,rfl,r⟩
      exact ⟨E,rfl,redo_ok ho (fun _ h => h) (fun _ h => dne_at h) r⟩
    · cases h
  | .ren n k,s,s',h => by
    simp only [ghost1] at h
    split at h
    · rename_i T ys hn
      split at h
      · rename_i hk
        split at h
        · cases h
        · rename_i hne
          split at h
          · rename_i hed
            cases h
            rintro a w ⟨E,rfl,r⟩
            obtain ⟨E',e1,r1⟩ := ren_ok hn hk (Nat.ne_of_beq_eq_false hne) hed r
            exact ⟨E',e1,r1⟩
          · cases h
      · cases h
    · cases h
  | .own t T,s,s',h => by
    obtain ⟨nt,tmps,objs,nx,df,wr,di,mv⟩ := s
    simp only [ghost1] at h
    split at h
    · rename_i hv
      split at h
      · rename_i hT
        cases h
        rintro a w ⟨E,rfl,r⟩
        have rv := r.rep t
        rw [show look t (St.mk nt tmps objs nx df wr di mv).tmps = .nils from hv] at rv
        obtain ⟨E',e1,e2,g,st,rr⟩ := nils_row r.good (r.fresh nx (Nat.le_refl _)) (Nat.le_of_ble_eq_true hT) rv
        exact ⟨E',e1,g,fun l hl => by have : nx + 1 ≤ l := hl;rw [e2 l (by omega)];exact r.fresh l (by show nx ≤ l;omega),r.step.trans st,by rw [e1];exact r.drawn,r.size,r.df.ext st.ext,look_put (fun t => (r.rep t).mono st.ext) rr⟩
      · cases h
    · cases h;exact .refl _
    · cases h;exact .refl _
    · cases h
  | .ownc l j T,s,s',h => by
    obtain ⟨nt,tmps,objs,nx,df,wr,di,mv⟩ := s
    simp only [ghost1] at h
    split at h
    · rename_i cs hcs
      split at h
      · rename_i hv
        split at h
        · rename_i hT
          cases h
          rintro a w ⟨E,rfl,r⟩
          obtain ⟨L,hL,vals,t,k1,k2,k3⟩ := r.good.at_ l _ hcs
          by_cases hj : j < cs.length
          · have rv := k3 j hj
            rw [hv] at rv
            obtain ⟨E',e1,e2,g,st,rr⟩ := nils_row r.good (r.fresh nx (Nat.le_refl _)) (Nat.le_of_ble_eq_true hT) rv
            have hne : l ≠ nx := fun e => by subst e;rw [r.fresh l (Nat.le_refl _)] at hL;cases hL
            have hL' : E'.loc l = some L := by rw [e2 l hne];exact hL
            have ho1 : getO l ((nx,Obj.row T []) :: objs) = some (.box cs) := by rw [getO_cons,if_neg (Ne.symm hne)];exact hcs
            have tr : ∀ l' o,getO l' ((l,Obj.box (setNth (.osl nx) j cs)) :: (nx,.row T []) :: objs) = some o → ∃ o1 L,getO l' ((nx,Obj.row T []) :: objs) = some o1 ∧ E'.loc l' = some L ∧ E'.loc l' = some L ∧ (∀ L,o.has L → o1.has L) ∧ (ObjAt P E' L o1 → ObjAt P E' L o) := by
              intro l' o ho
              rw [getO_cons] at ho
              split at ho
              · rename_i e
                subst e
                cases ho
                refine ⟨_,L,ho1,hL',hL',fun _ _ => trivial,fun hat => ?_⟩
                obtain ⟨vals2,t2,m1,m2,m3⟩ := hat
                have hvals : vals2 = vals := by
                  rw [e1,k1] at m1;cases m1;rfl
                subst hvals
                refine ⟨vals2,t2,m1,by rw [setNth_len];exact m2,fun i hi => ?_⟩
                rw [setNth_len] at hi
                rw [setNth_get i hi]
                split
                · rename_i e;subst e;exact rr
                · exact m3 i hi
              · obtain ⟨L1,h1,h2⟩ := g.at_ l' o ho
                exact ⟨o,L1,ho,h1,h1,fun _ h => h,fun h => h⟩
            refine ⟨E',e1,g.sub rfl rfl tr,fun l hl => by have : nx + 1 ≤ l := hl;rw [e2 l (by omega)];exact r.fresh l (by show nx ≤ l;omega),(r.step.trans st).swap tr (fun l' hl' => (getO_none_cons hl').2),by rw [e1];exact r.drawn,r.size,r.df.ext st.ext,fun t => (r.rep t).mono st.ext⟩
          · rw [List.getD_eq_getElem?_getD,List.getElem?_eq_none (by omega)] at hv
            cases hv
        · cases h
      · cases h;exact .refl _
      · cases h
    · cases h
  | .frz t,s,s',h => by cases h;exact wk_frzT t 5 s
  | .frzl l,s,s',h => by cases h;exact wk_freeze l
  | .zero t,s,s',h => by
    simp only [ghost1] at h
    split at h
    · rename_i l lo n hv
      split at h
      · rename_i hz
        simp only [Bool.and_eq_true] at hz
        have h1 := Nat.eq_of_beq_eq_true hz.1
        have h2 := Nat.eq_of_beq_eq_true hz.2
        subst h1 h2
        split at h
        · rename_i T xs ho
          split at h
          · rename_i hed
            rintro a w ⟨E,rfl,r⟩
            have rv := r.rep t
            rw [hv] at rv
            obtain ⟨E',e1,g,st,rr⟩ := zero_row r.good ho rv
            have r2 := RelE.edit r hed (by rw [e1];exact Nat.le_refl _) g st
            revert h r2
            generalize s.edit (some (l,.row T [],true)) = s2
            intro h r2
            obtain ⟨nt,tmps,objs,nx,df,wr,di,mv⟩ := s2
            cases h
            exact ⟨E',e1,r2.good,r2.fresh,r2.step,r2.drawn,r2.size,r2.df,look_put r2.rep rr⟩
          · cases h
        · cases h
      · cases h
    · cases h;exact .refl _
    · cases h;exact .refl _
    · cases h
  | .frzc l j,s,s',h => by
    simp only [ghost1] at h
    split at h
    · split at h
      · cases h;exact wk_freeze _
      · cases h;exact .refl _
    · cases h
  | .data t T,s,s',h => by
    obtain ⟨nt,tmps,objs,nx,df,wr,di,mv⟩ := s
    simp only [ghost1] at h
    split at h
    · rename_i x hx
      cases h
      rintro a w ⟨E,rfl,r⟩
      exact ⟨E,rfl,r.good,r.fresh,r.step,r.drawn,r.size,r.df,look_put r.rep (argV_any (lo := E.loc) (getD_arg hx (r.rep t)))⟩
    · cases h
theorem Inv.ghost1 : ∀ {gh : Gh} {s s' : St},ghost1 gh s = some s' → Inv s s'
  | .opn _,s,s',h => by cases h
  | .cls l,s,s',h => by
    simp only [YtldikbpclaeajaaGreatDoor.ghost1] at h
    split at h
    · split at h
      · cases h;exact Inv.redo
      · cases h
    · cases h
  | .dne l,s,s',h => by
    simp only [YtldikbpclaeajaaGreatDoor.ghost1] at h
    split at h
    · cases h;exact Inv.redo
    · cases h
  | .ren n k,s,s',h => by
    simp only [YtldikbpclaeajaaGreatDoor.ghost1] at h
    split at h
    · split at h
      · split at h
        · cases h
        · split at h
          · cases h
            exact ((Inv.edit s _).trans Inv.redo).trans (Inv.subst renF_ne)
          · cases h
      · cases h
    · cases h
  | .own t T,s,s',h => by
    obtain ⟨nt,tmps,objs,nx,df,wr,di,mv⟩ := s
    simp only [YtldikbpclaeajaaGreatDoor.ghost1] at h
    split at h
    · split at h
      · cases h
        exact ⟨rfl,Nat.le_succ _,fun _ h => List.mem_cons_of_mem _ h,fun _ h => List.mem_cons_of_mem _ h,fun _ h => h,fun u hu => by
          simp only [List.mem_cons,not_or] at hu
          simp only;rw [look_cons,if_neg (Ne.symm hu.1)],fun k hk => by
          simp only [List.mem_cons,not_or] at hk
          simp only;rw [getO_cons,if_neg (Ne.symm hk.1)],fun _ => rfl⟩
      · cases h
    · cases h;exact .refl _
    · cases h;exact .refl _
    · cases h
  | .ownc l j T,s,s',h => by
    obtain ⟨nt,tmps,objs,nx,df,wr,di,mv⟩ := s
    simp only [YtldikbpclaeajaaGreatDoor.ghost1] at h
    split at h
    · split at h
      · split at h
        · cases h
          exact ⟨rfl,Nat.le_succ _,fun _ h => h,fun _ h => List.mem_cons_of_mem _ (List.mem_cons_of_mem _ h),fun _ h => h,fun _ _ => rfl,fun k hk => by
            simp only [List.mem_cons,not_or] at hk
            simp only;rw [getO_cons,if_neg (Ne.symm hk.1),getO_cons,if_neg (Ne.symm hk.2.1)],fun _ => rfl⟩
        · cases h
      · cases h;exact .refl _
      · cases h
    · cases h
  | .frz t,s,s',h => by cases h;exact Inv.frzT t 5 s
  | .frzl l,s,s',h => by cases h;exact Inv.freeze l s
  | .zero t,s,s',h => by
    simp only [YtldikbpclaeajaaGreatDoor.ghost1] at h
    split at h
    · rename_i l lo n hv
      split at h
      · split at h
        · rename_i T xs ho
          split at h
          · have hi := Inv.edit s (some (l,.row T [],true))
            revert h hi
            generalize s.edit (some (l,.row T [],true)) = s2
            intro h hi
            refine hi.trans ?_
            obtain ⟨nt,tmps,objs,nx,df,wr,di,mv⟩ := s2
            cases h
            exact ⟨rfl,Nat.le_refl _,fun _ h => List.mem_cons_of_mem _ h,fun _ h => h,fun _ h => h,fun u hu => by
              simp only [List.mem_cons,not_or] at hu
              simp only;rw [look_cons,if_neg (Ne.symm hu.1)],fun _ _ => rfl,fun _ => rfl⟩
          · cases h
        · cases h
      · cases h
    · cases h;exact .refl _
    · cases h;exact .refl _
    · cases h
  | .frzc l j,s,s',h => by
    simp only [YtldikbpclaeajaaGreatDoor.ghost1] at h
    split at h
    · split at h
      · cases h;exact Inv.freeze _ _
      · cases h;exact .refl _
    · cases h
  | .data t T,s,s',h => by
    obtain ⟨nt,tmps,objs,nx,df,wr,di,mv⟩ := s
    simp only [YtldikbpclaeajaaGreatDoor.ghost1] at h
    split at h
    · cases h
      exact ⟨rfl,Nat.le_refl _,fun _ h => List.mem_cons_of_mem _ h,fun _ h => h,fun _ h => h,fun u hu => by
        simp only [List.mem_cons,not_or] at hu
        simp only;rw [look_cons,if_neg (Ne.symm hu.1)],fun _ _ => rfl,fun _ => rfl⟩
    · cases h
theorem part_data {E : Env} {objs : Objs} (g : Good P E objs) {l lo n : Nat} {T : Ty} {xs : List T.den} (ho : getO l objs = some (.row T xs)) (hlen : lo + n ≤ xs.length) {c : Value} (r : Rep P E (.osp l lo n) c) {L : Loc} (hL : E.loc l = some L) :
    Rep P (E.still L.b ((Obj.row T xs).has L)) (.d (.sl T) ((xs.drop lo).take n)) c := by
  obtain ⟨K,hK,a,rfl,ha⟩ := osp_inv r
  rw [hL] at hK;cases hK
  have h0 := frz_rep g ho hL rfl (v := .osl l) rfl (.osl hL)
  simp only [frz,Nat.beq_refl] at h0
  have h1 : Cells (E.still L.b ((Obj.row T xs).has L)).w (E.still L.b ((Obj.row T xs).has L)).S (.sl T) xs [L.v] := sl_inv h0
  obtain ⟨hesz,hpos,hl,_⟩ : L.esz = T.size ∧ 0 < T.size ∧ L.len = xs.length ∧ xs.length ≤ L.cap := by
    obtain ⟨M,hM,hat⟩ := g.at_ l _ ho
    rw [hL] at hM;cases hM
    have := row_cap hat
    exact ⟨hat.1,hat.2.1,hat.2.2.1,this⟩
  rw [Loc.v,hl] at h1
  have h2 := cells_part h1 hpos lo (lo + n) (by omega) hlen
  have e : (xs.take (lo + n)).drop lo = (xs.drop lo).take n := by rw [List.drop_take];congr 1;omega
  rw [e] at h2
  by_cases hn : n = 0
  · subst hn
    rw [List.take_zero]
    exact .d ⟨a,L.cap - lo,rfl,⟨by simp,by obtain ⟨_,cap',hc,hcap,_⟩ := h1;simp only [List.cons.injEq,Value.slice.injEq,and_true] at hc;show L.cap - lo ≤ maxLen;omega⟩,fun h => absurd rfl h⟩
  · have hne : L.cap ≠ lo := by omega
    rw [if_neg hne,← hesz,← ha hne,show lo + n - lo = n from by omega] at h2
    exact .d h2
def ghosts : List Gh → St → Option St
  | [],s => some s
  | g :: r,s => match ghost1 g s with
    | some s' => ghosts r s'
    | none => none
theorem ghosts_wk {cx : Cx} : ∀ {l : List Gh} {s s' : St},ghosts l s = some s' → Wk P cx s s'
  | [],s,s',h => by cases h;exact .refl _
  | g :: r,s,s',h => by
    simp only [ghosts] at h
    split at h
    · rename_i h1;exact (ghost1_wk h1).trans (ghosts_wk h)
    · cases h
theorem Inv.ghosts : ∀ {l : List Gh} {s s' : St},ghosts l s = some s' → Inv s s'
  | [],s,s',h => by cases h;exact .refl _
  | g :: r,s,s',h => by
    simp only [YtldikbpclaeajaaGreatDoor.ghosts] at h
    split at h
    · rename_i h1;exact (Inv.ghost1 h1).trans (Inv.ghosts h)
    · cases h
def casesW (f : Nat → Prop) (i : Int) (m : Nat) : Nat → Prop
  | 0 => False
  | c + 1 => cond (decide (i = Int.ofNat m)) (f m) (casesW f i (m + 1) c)
theorem casesW_inv {f : Nat → Prop} {i : Int} : ∀ {c m : Nat},casesW f i m c → ∃ k : Nat,i = Int.ofNat k ∧ f k
  | 0,m,h => h.elim
  | c + 1,m,h => by
    simp only [casesW] at h
    by_cases e : i = Int.ofNat m
    · rw [decide_eq_true e] at h;exact ⟨m,e,h⟩
    · rw [decide_eq_false e] at h;exact casesW_inv h
theorem setNth_self {v : V} : ∀ {j : Nat} {cs : List V},j < cs.length → cs.getD j .any = v → setNth v j cs = cs
  | _,[],h,_ => by simp at h
  | 0,x :: r,_,e => by simp at e;simp [setNth,e]
  | j + 1,x :: r,h,e => by simp [setNth,setNth_self (by simpa using h) (by simpa using e)]
def ghostsW : List Gh → St → (St → Prop) → Prop
  | [],s,k => k s
  | .part t :: r,s,k => match look t s.tmps with
    | .osp l lo n => match getO l s.objs with
      | some (.row T xs) => lo + n ≤ xs.length ∧ (match s.freeze l with
        | ⟨nt,tmps,objs,nx,df,wr,di,mv⟩ => ghostsW r ⟨nt,(t,.d (.sl T) ((xs.drop lo).take n)) :: tmps,objs,nx,df,t :: wr,di,mv⟩ k)
      | _ => False
    | _ => ghostsW r s k
  | .cases t j n :: r,s,k => match look t s.tmps with
    | .ref l _ => match getO l s.objs with
      | some (.box cs) => match cs.getD j .any with
        | .d (.int ik) i => casesW (fun m => match s with
          | ⟨nt,tmps,objs,nx,df,wr,di,mv⟩ => ghostsW r ⟨nt,tmps,(l,.box (setNth (.d (.int ik) (Int.ofNat m)) j cs)) :: objs,nx,df,wr,l :: di,mv⟩ k) i 0 n
        | _ => False
      | _ => False
    | _ => False
  | .opn l :: r,s,k => match s with
    | ⟨nt,tmps,objs,nx,df,wr,di,mv⟩ => match getO l objs with
      | some (.vrow T xs [] m) => match Nat.blt 0 T.size with
        | true => 0 < m ∧ ghostsW r ⟨nt,tmps,(l,.vrow T xs [.osl nx] (m - 1)) :: (nx,.row T []) :: objs,nx + 1,df,wr,l :: nx :: di,mv⟩ k
        | false => False
      | _ => False
  | g :: r,s,k => match ghost1 g s with
    | some s' => ghostsW r s' k
    | none => False
theorem opn_ok {cx : Cx} {nt : Nat} {tmps : List (Nat × V)} {objs : Objs} {nx : Nat} {df : List Df} {wr di mv : List Nat} {a : Act} {E : Env} {l : Nat} {T : Ty} {xs : List (List T.den)} {m : Nat} (ho : getO l objs = some (.vrow T xs [] m)) (hT : 0 < T.size) (hm : 0 < m)
    (r : RelE P cx ⟨nt,tmps,objs,nx,df,wr,di,mv⟩ a E) : ∃ E',E'.w = E.w ∧ RelE P cx ⟨nt,tmps,(l,.vrow T xs [.osl nx] (m - 1)) :: (nx,.row T []) :: objs,nx + 1,df,wr,l :: nx :: di,mv⟩ a E' := by
  obtain ⟨E',e1,e2,g,st,rr⟩ := nils_row (T := T) r.good (r.fresh nx (Nat.le_refl _)) hT (.nils none)
  obtain ⟨L,hL,_⟩ := r.good.at_ l _ ho
  have hne : nx ≠ l := fun e => by rw [← e,r.fresh nx (Nat.le_refl _)] at hL;cases hL
  have r1 : RelE P cx ⟨nt,tmps,(nx,.row T []) :: objs,nx + 1,df,wr,nx :: di,mv⟩ a E' :=
    ⟨g,fun j hj => by have : nx + 1 ≤ j := hj;rw [e2 j (by omega)];exact r.fresh j (by show nx ≤ j;omega),r.step.trans st,by rw [e1];exact r.drawn,r.size,r.df.ext st.ext,fun t => (r.rep t).mono st.ext⟩
  refine ⟨E',e1,redo_ok (l := l) (o := .vrow T xs [] m) (o' := .vrow T xs [.osl nx] (m - 1)) (by show getO l ((nx,.row T []) :: objs) = _;rw [getO_cons,if_neg hne];exact ho) (fun _ h => h) (fun K h => ?_) r1⟩
  obtain ⟨h1,h2,h3,e,cs,h4,h5⟩ := h
  have hlen : K.len = xs.length + [V.osl nx].length + (m - 1) := by simp only [List.length_cons,List.length_nil] at h3 ⊢;omega
  refine ⟨h1,Nat.le_refl _,hlen,e,cs,h4,?_⟩
  rcases h5 with ⟨h5,h6⟩ | ⟨cur,h5,h6,h7,h8,h9,h10,h11,h12,h13⟩
  · simp at h3;omega
  · refine .inr ⟨cur,h5,h6,h7,h8,h9,h10,h11,fun j hj => ?_,fun i hi => h13 i (by simp only [List.length_cons,List.length_nil] at hi ⊢;omega)⟩
    obtain rfl : j = 0 := by simp at hj;exact hj
    have := h13 xs.length (by simp) (by simp at h3;omega)
    rw [Array.getD_eq_getD_getElem?,Nat.add_zero,this]
    exact rr
theorem ghostsW_ok {cx : Cx} : ∀ {l : List Gh} {s : St} {k : St → Prop} {a : Act} {w : World},ghostsW l s k → Rel P cx s a w → ∃ s',Inv s s' ∧ Rel P cx s' a w ∧ k s'
  | [],s,k,a,w,h,r => ⟨s,.refl s,r,h⟩
  | g :: l,s,k,a,w,h,r => by
    have plain : (match ghost1 g s with | some s' => ghostsW l s' k | none => False) → ∃ s',Inv s s' ∧ Rel P cx s' a w ∧ k s' := fun h => by
      split at h
      · rename_i s1 h1
        obtain ⟨s',i1,r1,k1⟩ := ghostsW_ok h (ghost1_wk h1 a w r)
        exact ⟨s',(Inv.ghost1 h1).trans i1,r1,k1⟩
      · exact h.elim
    cases g with
    | part t =>
      simp only [ghostsW] at h
      split at h
      · rename_i o lo n hv
        split at h
        · rename_i T xs ho
          obtain ⟨hlen,h⟩ := h
          obtain ⟨E,rfl,r1⟩ := r
          have rv := r1.rep t
          rw [hv] at rv
          obtain ⟨L,hL,_⟩ := r1.good.at_ o _ ho
          have hd := part_data r1.good ho hlen rv hL
          have hst : ∃ E',E'.w = E.w ∧ (∀ v c,v.fk = none → Rep P (E.still L.b ((Obj.row T xs).has L)) v c → Rep P E' v c) ∧ RelE P cx (s.freeze o) a E' := by
            have hw := wk_freezeE (P := P) (cx := cx) o ho hL r1
            exact ⟨E.still L.b ((Obj.row T xs).has L),rfl,fun v c hk hr => hr,hw⟩
          obtain ⟨E',e1,e2,r2⟩ := hst
          have hi := Inv.freeze o s
          revert h r2 hi
          generalize s.freeze o = s2
          intro h r2 hi
          obtain ⟨nt,tmps,objs,nx,df,wr,di,mv⟩ := s2
          simp only at h
          have r3 : Rel P cx ⟨nt,(t,.d (.sl T) ((xs.drop lo).take n)) :: tmps,objs,nx,df,t :: wr,di,mv⟩ a E.w :=
            ⟨E',e1,r2.good,r2.fresh,r2.step,r2.drawn,r2.size,r2.df,look_put r2.rep (e2 _ _ rfl hd)⟩
          obtain ⟨s',i1,r4,k1⟩ := ghostsW_ok h r3
          refine ⟨s',(hi.trans ?_).trans i1,r4,k1⟩
          exact ⟨rfl,Nat.le_refl _,fun _ h => List.mem_cons_of_mem _ h,fun _ h => h,fun _ h => h,fun u hu => by
            simp only [List.mem_cons,not_or] at hu
            simp only;rw [look_cons,if_neg (Ne.symm hu.1)],fun _ _ => rfl,fun _ => rfl⟩
        · exact h.elim
      · exact ghostsW_ok h r
    | cases t j n =>
      simp only [ghostsW] at h
      split at h
      · rename_i o off hlk
        split at h
        · rename_i cs ho
          split at h
          · rename_i ik i hv
            obtain ⟨m,e,h⟩ := casesW_inv h
            obtain ⟨E,rfl,r1⟩ := r
            obtain ⟨nt,tmps,objs,nx,df,wr,di,mv⟩ := s
            simp only at h ho
            have hj : j < cs.length := by
              refine Nat.lt_of_not_le fun hle => ?_
              rw [List.getD_eq_getElem?_getD,List.getElem?_eq_none hle] at hv;cases hv
            have e' : i = Int.ofNat m := e
            rw [setNth_self hj (by rw [hv,e'])] at h
            have hob : ∀ l',getO l' ((o,Obj.box cs) :: objs) = getO l' objs := fun l' => by
              rw [getO_cons]
              split
              · rename_i e;rw [← e];exact ho.symm
              · rfl
            have tr : ∀ l' o1,getO l' ((o,Obj.box cs) :: objs) = some o1 → ∃ o2 L,getO l' objs = some o2 ∧ E.loc l' = some L ∧ E.loc l' = some L ∧ (∀ L,o1.has L → o2.has L) ∧ (ObjAt P E L o2 → ObjAt P E L o1) := fun l' o1 h1 => by
              rw [hob] at h1
              obtain ⟨L,hL,_⟩ := r1.good.at_ l' o1 h1
              exact ⟨o1,L,h1,hL,hL,fun _ h => h,fun h => h⟩
            have r2 : Rel P cx ⟨nt,tmps,(o,.box cs) :: objs,nx,df,wr,o :: di,mv⟩ a E.w :=
              ⟨E,rfl,r1.good.sub rfl rfl tr,r1.fresh,r1.step.swap tr (fun l' hl' => by rw [hob] at hl';exact hl'),r1.drawn,r1.size,r1.df,r1.rep⟩
            obtain ⟨s',i1,r4,k1⟩ := ghostsW_ok h r2
            refine ⟨s',Inv.trans ?_ i1,r4,k1⟩
            exact ⟨rfl,Nat.le_refl _,fun _ h => h,fun _ h => List.mem_cons_of_mem _ h,fun _ h => h,fun _ _ => rfl,fun k _ => hob k,fun _ => rfl⟩
          · exact h.elim
        · exact h.elim
      · exact h.elim
    | opn l =>
      obtain ⟨nt,tmps,objs,nx,df,wr,di,mv⟩ := s
      simp only [ghostsW] at h
      split at h
      · rename_i T xs m ho
        split at h
        · rename_i hT
          obtain ⟨E,rfl,r1⟩ := r
          obtain ⟨E',e1,r2⟩ := opn_ok ho (Nat.le_of_ble_eq_true hT) h.1 r1
          obtain ⟨s',i1,r4,k1⟩ := ghostsW_ok h.2 (e1 ▸ ⟨E',rfl,r2⟩ : Rel P cx _ a E.w)
          refine ⟨s',Inv.trans ?_ i1,r4,k1⟩
          exact ⟨rfl,Nat.le_succ _,fun _ h => h,fun _ h => List.mem_cons_of_mem _ (List.mem_cons_of_mem _ h),fun _ h => h,fun _ _ => rfl,fun k hk => by
            have hk : k ∉ l :: nx :: di := hk
            simp only [List.mem_cons,not_or] at hk
            show getO k (_ :: _ :: objs) = _
            rw [getO_cons,if_neg (Ne.symm hk.1),getO_cons,if_neg (Ne.symm hk.2.1)],fun _ => rfl⟩
        · exact h.elim
      · exact h.elim
    | _ => exact plain h
def callKey : Option Nat → Nat
  | some d => d
  | none => 9999
def putV (dst : Option Nat) (k : St → Prop) (v : V) (s : St) : Prop := match s.setT dst v with
  | some s' => k s'
  | none => False
def idxW (i : Int) (k : V → Prop) : Nat → List V → Prop
  | _,[] => False
  | _,[v] => k v
  | j,v :: u :: r => cond (decide (i = (j : Int))) (k v) (idxW i k (j + 1) (u :: r))
def indexW (τ : TyTab) (t : TypeId) (x ix : V) (k : V → Prop) : Prop := match τ t with
  | some ⟨.arr n e,_,_,_,_⟩ => match x with
    | .agg cs => match ix with
      | .d (.int _) i => match τ e with
        | some ei => match Nat.beq cs.length n && Nat.beq ei.size 1 && !ei.isAgg && ei.k.known with
          | true => (0 ≤ i ∧ i < (n : Int)) ∧ idxW i k 0 cs
          | false => False
        | none => False
      | _ => False
    | _ => False
  | _ => False
def nilP (os : Objs) : V → Option Prop
  | .d (.sl T) l => some (l = ([] : List T.den))
  | .nils => some True
  | .osl l => match getO l os with
    | some (.row T xs) => some (xs = [])
    | _ => none
  | _ => none
def nilW (τ : TyTab) (op : BinOp) (t : TypeId) (os : Objs) (x : V) (c : Value) (k : V → Prop) : Prop := match τ t with
  | some ⟨.sl _,_,_,_,_⟩ => match c with
    | .slice none 0 0 => match nilP os x with
      | some p => match op with
        | .eql => ∀ b : Bool,(b = true → p) → k (.d .bool b)
        | .neq => ∀ b : Bool,(b = true → p) → k (.d .bool (!b))
        | _ => False
      | none => False
    | _ => False
  | _ => False
def xW (τ : TyTab) (φ : Nat → Option FX) (run : RunT) (A : An) (Y : List (Nat × An)) : XT := fun o s k => match o with
  | ⟨dst,op,_,_,_,_⟩ => match op with
    | .call { callee := .value x,args,.. } => match evV s.tmps x with
      | .yl l => yieldW run Y l (mapEv s.tmps args.toList) s (putV dst k)
      | f => callF τ φ run (A.call (callKey dst)) Y f (mapEv s.tmps args.toList) s (putV dst k)
    | .index t x i => indexW τ t (evV s.tmps x) (evV s.tmps i) fun v => putV dst k v s
    | .binOp op t x (.const c) _ => nilW τ op t s.objs (evV s.tmps x) c fun v => putV dst k v s
    | _ => False
theorem idxW_get {i : Int} {k : V → Prop} : ∀ {j : Nat} {cs : List V},idxW i k j cs → (j : Int) ≤ i → i < (j : Int) + cs.length → ∃ (n : Nat) (v : V),cs[n]? = some v ∧ i = (j : Int) + n ∧ k v
  | _,[],h,_,_ => h.elim
  | j,[v],h,h1,h2 => ⟨0,v,rfl,by simp at h2;omega,h⟩
  | j,v :: u :: r,h,h1,h2 => by
    simp only [idxW] at h
    by_cases e : i = (j : Int)
    · rw [decide_eq_true e] at h
      exact ⟨0,v,rfl,by omega,h⟩
    · rw [decide_eq_false e] at h
      simp only [List.length_cons] at h2
      obtain ⟨n,w,a1,a2,a3⟩ := idxW_get (j := j + 1) h (by omega) (by simp only [List.length_cons];omega)
      exact ⟨n + 1,w,by simpa using a1,by omega,a3⟩
theorem putV_ok {cx : Cx} {s s1 : St} {dst : Option Nat} {k : St → Prop} {v : V} {u : Value} {a : Act} {E' : Env} {next : Act → World → Prop} (hn : ∀ s' a' w', Inv s s' → k s' → Rel P cx s' a' w' → next a' w') (hi : Inv s s1) (hk : putV dst k v s1) (r : RelE P cx s1 a E') (rv : Rep P E' v u) :
    next (a.put dst u) E'.w := by
  unfold putV at hk
  split at hk
  · rename_i s' hs
    exact hn s' _ _ (hi.trans (Inv.setT hs)) hk ⟨E',rfl,RelE.setT r hs rv⟩
  · exact hk.elim
theorem nilP_ok {E : Env} {objs : Objs} (g : Good P E objs) {x : V} {p : Prop} (h : nilP objs x = some p) {c : Value} (r : Rep P E x c) : ∃ a n cap,c = .slice a n cap ∧ (a.isNone = true → p) := by
  unfold nilP at h
  split at h
  · rename_i T l
    cases h
    obtain ⟨a,cap,hc,_,hl⟩ := sl_inv r
    refine ⟨a,_,cap,(List.cons.inj hc).1,fun hn => ?_⟩
    apply Classical.byContradiction
    intro hne
    obtain ⟨b,off,ha,_⟩ := hl hne
    rw [ha] at hn;cases hn
  · cases h
    cases r with | nils a => exact ⟨a,0,0,rfl,fun _ => trivial⟩
  · rename_i l
    split at h
    · rename_i T xs ho
      cases h
      obtain ⟨L,hL,rfl⟩ := osl_inv r
      obtain ⟨K,hK,hat⟩ := g.at_ l _ ho
      rw [hL] at hK;cases hK
      obtain ⟨_,_,_,_,_,_,⟨_,h⟩ | ⟨cur,h,_⟩⟩ := hat
      · exact ⟨_,_,_,rfl,fun _ => h⟩
      · exact ⟨_,_,_,rfl,fun hn => by rw [h] at hn;cases hn⟩
    · cases h
  · cases h
theorem equal_slice {t e : TypeId} (h : P.underlying t = some (.slice e)) (a : Option Addr) (n c : Nat) (w : World) : (Op.equal t (.slice a n c) (.slice none 0 0)).run P w = .ok a.isNone w :=
  equal_of fun d => by cases a <;> simp only [Op.equalIn,Sem.run_bind,run_underlying h,Result.andThen_ok,Sem.run_pure,Option.isNone]
theorem xW_ok (hτ : TabOk P τ) (hφ : ∀ g fi,φ g = some fi → fi.Ok P g) {run : RunT} (hrun : RunOk P run) {A : An} {Y : List (Nat × An)} {r : Option Nat} {cx : Cx} : XOk P r cx (xW τ φ run A Y) := by
  intro o s k a w next Q hg h hr hn
  obtain ⟨dst,op,ty,po,af,guard⟩ := o
  obtain ⟨E,rfl,r1⟩ := hr
  unfold xW at h
  simp only at h
  split at h
  · rename_i x args tys
    have ra : Reps P E (mapEv s.tmps args.toList) (args.toList.map a.eval) := mapEv_reps fun y _ => evV_rep r1.rep y
    have rx := evV_rep r1.rep x
    split at h
    · rename_i l hx
      rw [hx] at rx
      obtain ⟨b,fn,tm,as,bo,e1,e2,e3⟩ := yieldW_ok (cs := args.map a.eval) hrun h r1 rx (by simpa using ra) r
      refine ⟨fun _ _ => trivial,?_⟩
      rw [Oper.semAt_eq _ _ _ (fun c => by simp)]
      have hrun' : (execOp a.eval ⟨dst,.call { callee := .value x,args,argTypes := tys },ty,po,af,guard⟩).run P E.w = .ok (.round b fn tm as bo) E.w := by
        simp [execOp,resolve,e1,Deferred.ofValue,invoke,e2]
      rw [hrun',Oper.uponIn_round]
      exact ⟨fun h => by simp [fz,Fence.wide] at h,e3 _ fun u v s3 E' hi hk hr' hv => putV_ok hn hi hk hr' hv⟩
    · rename_i hx
      obtain ⟨g,p,q,e1,e2,e3⟩ := callF_ok hτ hφ hrun h r1 rx ra
      refine ⟨fun _ _ => trivial,?_⟩
      rw [Oper.semAt_eq _ _ _ (fun c => by simp),call_run (o := ⟨dst,.call { callee := .value x,args,argTypes := tys },ty,po,af,guard⟩) rfl e2 e1,Oper.uponIn_enter]
      refine ⟨fun h => by simp [fz,Fence.wide] at h,?_⟩
      have : (args.toList.map a.eval).toArray = args.map a.eval := Array.ext' (by rw [Array.toList_map])
      rw [this] at e3
      exact e3 _ fun u v s3 E' hi hk hr' hv _ => putV_ok hn hi hk hr' hv
  · rename_i t x i
    unfold indexW at h
    split at h
    · rename_i n e sz by_ ze co hti
      split at h
      · rename_i cs hx
        split at h
        · rename_i k' ii hii
          split at h
          · rename_i ei hei
            split at h
            · rename_i hc
              obtain ⟨⟨h0,h1⟩,h2⟩ := h
              simp only [Bool.and_eq_true] at hc
              have hlen : cs.length = n := Nat.eq_of_beq_eq_true hc.1.1.1
              obtain ⟨m,v,m1,m2,m3⟩ := idxW_get (j := 0) h2 (by simpa using h0) (by rw [hlen];simpa using h1)
              have rx := evV_rep r1.rep x
              have ri := evV_rep r1.rep i
              rw [hx] at rx
              rw [hii] at ri
              have hm : m < n := by rw [← hlen];exact (List.getElem?_eq_some_iff.1 m1).1
              have he : effIndex τ t (.agg cs) (.d (.int k') (Int.ofNat m)) = some ⟨none,v,none⟩ := by
                have hb : Nat.blt m n = true := Nat.ble_eq_true_of_le hm
                simp only [effIndex,hti,hei,hb,hc.1.1.2,hc.1.2,hc.2,Bool.and_self,m1]
              have ri' : Rep P E (.d (.int k') (Int.ofNat m)) (a.eval i) := by
                have : ii = Int.ofNat m := by simpa using m2
                rw [this] at ri;exact ri
              have := effIndex_ok hτ he r1.good rx ri'
              have hran : Ran P ⟨dst,.index t x i,ty,po,af,guard⟩ a.eval E s.objs ⟨none,v,none⟩ := this.ran rfl
              refine hran.did (by simp) next Q (fun E' u g' st hd hv => ?_)
              exact putV_ok hn (.refl s) m3 (RelE.edit (ed := none) r1 rfl hd g' st) hv
            · exact h.elim
          · exact h.elim
        · exact h.elim
      · exact h.elim
    · exact h.elim
  · rename_i bop t x c yt
    unfold nilW at h
    split at h
    · rename_i e sz by_ ze co hti
      split at h
      · split at h
        · rename_i p hp
          have ht : P.underlying t = some (.slice e) := (hτ t _ hti).kind
          obtain ⟨a',n,cap,hx,hnil⟩ := nilP_ok r1.good hp (evV_rep r1.rep x)
          have heq := equal_slice (P := P) ht a' n cap E.w
          have hgd : ∀ op,(eqGuard op t x (.const (.slice none 0 0)) (.slice a' n cap) (.slice none 0 0)).run P E.w = .ok () E.w := fun op => eqGuard_run _ _ _ _ rfl (by simp) _
          split at h
          · have hran : Ran P ⟨dst,.binOp .eql t x (.const (.slice none 0 0)) yt,ty,po,af,guard⟩ a.eval E s.objs ⟨none,.d .bool a'.isNone,none⟩ :=
              (RanV.same (s := do eqGuard .eql t x (.const (.slice none 0 0)) (a.eval x) (.slice none 0 0);Go.binOp .eql t (a.eval x) (.slice none 0 0)) r1.good (v := .bool a'.isNone) (by
                rw [hx];simp only [Sem.run_bind];rw [hgd];simp only [Result.andThen_ok,Go.binOp,Sem.run_bind,heq,Sem.run_pure]) (.mk_bool _)).ran rfl
            refine hran.did (by simp) next Q (fun E' u g' st hd hv => ?_)
            exact putV_ok hn (.refl s) (h a'.isNone hnil) (RelE.edit (ed := none) r1 rfl hd g' st) hv
          · have hran : Ran P ⟨dst,.binOp .neq t x (.const (.slice none 0 0)) yt,ty,po,af,guard⟩ a.eval E s.objs ⟨none,.d .bool (!a'.isNone),none⟩ :=
              (RanV.same (s := do eqGuard .neq t x (.const (.slice none 0 0)) (a.eval x) (.slice none 0 0);Go.binOp .neq t (a.eval x) (.slice none 0 0)) r1.good (v := .bool (!a'.isNone)) (by
                rw [hx];simp only [Sem.run_bind];rw [hgd];simp only [Result.andThen_ok,Go.binOp,Sem.run_bind,heq,Sem.run_pure]) (.mk_bool _)).ran rfl
            refine hran.did (by simp) next Q (fun E' u g' st hd hv => ?_)
            exact putV_ok hn (.refl s) (h a'.isNone hnil) (RelE.edit (ed := none) r1 rfl hd g' st) hv
          · exact h.elim
        · exact h.elim
      · exact h.elim
    · exact h.elim
  · exact h.elim
end Go.Proofs.YtldikbpclaeajaaGreatDoor
