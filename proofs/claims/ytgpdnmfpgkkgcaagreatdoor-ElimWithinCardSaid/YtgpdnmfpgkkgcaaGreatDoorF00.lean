/- Part of a proof that a law of the program holds for every input: how abstract states follow the program. No conditions. -/
import Derived.Below
import Derived.IntWalk
import Derived.KernelRfl
import Derived.Laws.AppendOwn
import Derived.Laws.BytesString
import Derived.Laws.MakeOwn
import Derived.Lib.AppendIntMem
import Derived.OrdersIn
import Derived.RangeFuncLeaves
namespace Go.Proofs.YtgpdnmfpgkkgcaaGreatDoor
open Go
set_option linter.unusedVariables false
theorem ZiS{α:Type}:∀ (q:Ask α) (w:World),w.drawn≤(w.ask q).2.drawn
 | .done a,w=>by simp[World.ask]
 | .ask what range k,w=>by
   simp only[World.ask]
   split
   ·exact ZiS _ _
   ·exact Nat.le_trans (Nat.le_succ _) (ZiS _ { w with drawn:=w.drawn+1 })
theorem Zsm(w:World)(c:Sys):w.drawn≤(w.sys c).2.drawn:=by
 have h:=ZiS (Kernel.perform c w.os) w
 unfold World.sys
 split
 ·exact Nat.le_refl _
 ·rename_i r os w' he
  rw[he] at h;exact h
theorem ZjM{p:Program}{w w':World}{a:Addr}{u:TypeId}{k:Addr}{v:Value}{at_:Bool}{l:List Addr}(h:w.viewStore p a u k v at_=.ok (w',l)):w'.drawn=w.drawn:=by
 simp only[World.viewStore,bind,Except.bind,pure,Except.pure] at h
 repeat' split at h
 all_goals first
  | (cases h;rfl;done)
  | (cases h;done)
  | skip
theorem ZjZ{p:Program}{w w':World}{a:Addr}{v:Value}{b:Bool}{l:List Addr}(h:w.farStore p a v b=.ok (w',l)):w'.drawn=w.drawn:=by
 unfold World.farStore at h
 split at h
 ·split at h
  ·rename_i r hr;cases h;exact ZjM hr
  ·cases h
 ·cases h
theorem ZgQ{α:Type}{p:Program}:∀ (s:Sem α) (w:World) (a:α) (w':World),s.run p w=.ok a w'→w.drawn≤w'.drawn:=by
 intro s
 induction s with
 | pure x=>intro w a w' h;simp only[Sem.run] at h;cases h;exact Nat.le_refl _
 | load m ad k ih =>
   intro w a w' h;simp only[Sem.run] at h
   split at h
   ·exact ih _ _ _ _ h
   ·split at h
    ·exact ih _ _ _ _ h
    ·cases h
 | store m ad v k ih =>
   intro w a w' h
   cases v<;>simp only[Sem.run] at h<;>first
    | (cases h;done)
    | (split at h
       ·split at h
        ·cases h
        ·exact ih (w.setCell ad _) _ _ h
       ·split at h
        ·rename_i w1 l1 hf
         exact Nat.le_trans (Nat.le_of_eq (ZjZ hf).symm) (ih w1 _ _ h)
        ·cases h)
 | new o k ih=>intro w a w' h;simp only[Sem.run] at h;exact ih _ { w with heap:=w.heap.push o } _ _ h
 | shape r k ih=>intro w a w' h;simp only[Sem.run] at h;exact ih _ _ _ _ h
 | freeze ad n k ih =>
   intro w a w' h;simp only[Sem.run] at h
   have:=ih (w.freeze ad n) _ _ h
   have e:(w.freeze ad n).drawn=w.drawn:=by unfold World.freeze;split<;>rfl
   omega
 | frozen ad k ih=>intro w a w' h;simp only[Sem.run] at h;exact ih _ _ _ _ h
 | getObj r k ih =>
   intro w a w' h;simp only[Sem.run] at h
   split at h
   ·cases h
   ·exact ih _ _ _ _ h
   ·cases h
 | setObj r o k ih =>
   intro w a w' h;simp only[Sem.run] at h
   split at h
   ·cases h
   ·exact ih { w with heap:=w.heap.setIfInBounds r o } _ _ h
   ·cases h
 | choose q k ih =>
   intro w a w' h;simp only[Sem.run] at h
   split at h
   ·exact ih _ _ _ _ h
   ·exact Nat.le_trans (Nat.le_succ _) (ih _ _ _ _ h)
 | sys c k ih =>
   intro w a w' h;simp only[Sem.run] at h
   exact Nat.le_trans (Zsm w c) (ih _ _ _ _ h)
 | program k ih=>intro w a w' h;simp only[Sem.run] at h;exact ih _ _ _ _ h
 | mark m k ih=>intro w a w' h;simp only[Sem.run] at h;exact ih w _ _ h
 | halt h0=>intro w a w' h;simp only[Sem.run] at h;cases h
inductive Ty where
 | int (k:IntKind) | bool | str | sl (t:Ty) | pair (a b:Ty) | unit
 deriving DecidableEq
@[reducible] def Ty.den:Ty→Type
 | .int _=>Int
 | .bool=>Bool
 | .str=>ByteArray
 | .sl t=>List t.den
 | .pair a b=>a.den×b.den
 | .unit=>Unit
def Ty.size:Ty→Nat
 | .int _ | .bool | .str | .sl _=>1
 | .pair a b=>a.size+b.size
 | .unit=>0
def Ty.dflt:(t:Ty)→t.den
 | .int _=>(0:Int)
 | .bool=>false
 | .str=>ByteArray.empty
 | .sl _=>[]
 | .pair a b=>(a.dflt,b.dflt)
 | .unit=>()
@[reducible] def ZeI:List Ty→Type
 | []=>Unit
 | [t]=>t.den
 | t::u::l=>t.den×ZeI (u::l)
inductive V where
 | any
 | d (t:Ty) (x:t.den)
 | nilp | nilf | nils | nilm
 | fn (f:Fn) (fst caps:List V)
 | agg (cs:List V)
 | tup (vs:List V)
 | er (cs:List V)
 | ref (l off:Nat)
 | rref (l i off:Nat)
 | osl (l:Nat)
 | osp (l lo n:Nat)
 | map (l:Nat)
 | when (b:Bool) (v:V)
 | opt (b:Bool) (v:V)
 | pf (ts rs:List Ty) (pre:ZeI ts→Prop) (f:ZeI ts→ZeI rs)
 | yl (l:Nat)
 | bsl (l n:Nat)
def flat:(t:Ty)→t.den→List V
 | .int k,x=>[.d (.int k) x]
 | .bool,x=>[.d .bool x]
 | .str,x=>[.d .str x]
 | .sl t,x=>[.d (.sl t) x]
 | .pair a b,x=>flat a x.1++flat b x.2
 | .unit,_=>[]
theorem Zep:∀ (t:Ty) (x:t.den),(flat t x).length=t.size
 | .int _,_ | .bool,_ | .str,_ | .sl _,_ | .unit,_=>rfl
 | .pair a b,x=>by simp only[flat,List.length_append,Zep a,Zep b,Ty.size]
def ZbD(w:World)(S:Nat→Prop):(t:Ty)→t.den→List Value→Prop
 | .int k,n,cs=>cs=[.int k n]
 | .bool,b,cs=>cs=[.bool b]
 | .str,s,cs=>cs=[.string s]
 | .sl t, l, cs => ∃ a c, cs = [.slice a (List.length (α := t.den) l) c] ∧ (List.length (α := t.den) l ≤ c ∧ c ≤ maxLen) ∧ (l ≠ ([] : List t.den) → ∃ b off, a = some ⟨b, off, none⟩ ∧ S b ∧
  ∀ i (x:t.den),(l:List t.den)[i]?=some x→∃ cs',ZbD w S t x cs'∧∀ j u,cs'[j]?=some u→w.cell? ⟨b,off+i*t.size+j,none⟩=some u)
 | .pair a b,x,cs=>∃ c1 c2,cs=c1++c2∧ZbD w S a x.1 c1∧ZbD w S b x.2 c2
 | .unit,_,cs=>cs=[]
theorem ZbD.length{w:World}{S:Nat→Prop}:∀ {t:Ty} {x:t.den} {cs:List Value},ZbD w S t x cs→cs.length=t.size
 | .int _,_,_,h=>by rw[show _=_ from h];rfl
 | .bool,_,_,h=>by rw[show _=_ from h];rfl
 | .str,_,_,h=>by rw[show _=_ from h];rfl
 | .sl _,_,_,⟨_,_,h,_⟩=>by rw[h];rfl
 | .pair a b,_,_,⟨c1,c2,h,h1,h2⟩=>by rw[h,List.length_append,h1.length,h2.length];rfl
 | .unit,_,_,h=>by rw[show _=_ from h];rfl
theorem ZbD.one{w:World}{S:Nat→Prop}:∀ {t:Ty} {x:t.den} {cs:List Value},ZbD w S t x cs→∀ u∈cs,u.oneCell'=true
 | .int _,_,_,h=>by rw[show _=_ from h];simp[Value.oneCell']
 | .bool,_,_,h=>by rw[show _=_ from h];simp[Value.oneCell']
 | .str,_,_,h=>by rw[show _=_ from h];simp[Value.oneCell']
 | .sl _,_,_,⟨_,_,h,_⟩=>by rw[h];simp[Value.oneCell']
 | .pair a b,_,_,⟨c1,c2,h,h1,h2⟩=>by
   rw[h];intro u hu
   rcases List.mem_append.1 hu with hu | hu
   ·exact h1.one u hu
   ·exact h2.one u hu
 | .unit,_,_,h=>by rw[show _=_ from h];simp
theorem ZdL{w w':World}{b:Nat}(h:w'.heap[b]?=w.heap[b]?)(o:Nat):w'.cell? ⟨b,o,none⟩=w.cell? ⟨b,o,none⟩:=by
 simp only[World.cell?,h]
theorem ZbD.mono {w w' : World} {S S' : Nat → Prop} (hS : ∀ b, S b → S' b ∧ w'.heap[b]? = w.heap[b]?) :
 ∀ {t:Ty} {x:t.den} {cs:List Value},ZbD w S t x cs→ZbD w' S' t x cs
 | .int _,_,_,h=>h
 | .bool,_,_,h=>h
 | .str,_,_,h=>h
 | .sl t,l,_,⟨a,c,h,hc,hl⟩=>⟨a,c,h,hc,fun hne=>by
  obtain⟨b,off,ha,hb,hx⟩:=hl hne
  refine⟨b,off,ha,(hS b hb).1,fun i x hi=>?_⟩
  obtain⟨cs',h1,h2⟩:=hx i x hi
  exact⟨cs',h1.mono hS,fun j u hj=>(ZdL (hS b hb).2 _).trans (h2 j u hj)⟩⟩
 | .pair _ _,_,_,⟨c1,c2,h,h1,h2⟩=>⟨c1,c2,h,h1.mono hS,h2.mono hS⟩
 | .unit,_,_,h=>h
structure Loc where
 b:Nat
 a:Option Addr:=none
 len:Nat:=0
 cap:Nat:=0
 esz:Nat:=0
def Loc.v(L:Loc):Value:=.slice L.a L.len L.cap
structure Env where
 w:World
 S:Nat→Prop
 loc:Nat→Option Loc
def Loc.Part(L:Loc)(lo n:Nat)(c:Value):Prop:=∃ a,c=.slice a n (L.cap - lo)∧(L.cap≠lo→a=L.a.map (·.add (lo*L.esz)))
def ZoA(w:World)(S:Nat→Prop)(t:Ty)(x:t.den)(v:Value):Prop :=
 match t,x with
 | .pair a b,x=>∃ cs:Array Value,v=.agg cs∧ZbD w S (.pair a b) x cs.toList
 | t,x=>ZbD w S t x [v]
def Zka(w:World)(S:Nat→Prop):(ts:List Ty)→ZeI ts→List Value→Prop
 | [],_,vs=>vs=[]
 | [t],x,vs=>∃ v,vs=[v]∧ZoA w S t x v
 | t::u::l,x,vs=>∃ v r,vs=v::r∧ZoA w S t x.1 v∧Zka w S (u::l) x.2 r
def ZvC(w:World)(S:Nat→Prop)(rs:List Ty)(x:ZeI rs)(v:Value):Prop :=
 match rs,x with
 | [],_=>v=.tuple #[]
 | [t],x=>ZoA w S t x v
 | t::u::l,x=>∃ vs:Array Value,v=.tuple vs∧Zka w S (t::u::l) x vs.toList
structure ZhY (w:World) (S:Nat→Prop) (w':World) (S':Nat→Prop):Prop where
 drawn:w.drawn≤w'.drawn
 os:w'.os=w.os
 tape:w'.tape=w.tape
 output:w'.output=w.output
 size:w.heap.size≤w'.heap.size
 frame:∀ b,b < w.heap.size→w'.heap[b]?=w.heap[b]?
 up:∀ b,S b→S' b
 st:∀ b,S' b→S b∨w.heap.size≤b
 lt:∀ b,S' b→b < w'.heap.size
def ZbT (P : Program) (f : FuncId) : Prop := ∃ fn, P.funcs[f]? = some fn ∧ fn.body.isSome = true ∧ (fn.name == "runtime.NumGoroutine") = false
def Zv0(P:Program)(w:World)(S:Nat→Prop):Prop :=
 ∃ b, S b ∧ ∀ w' : World, w'.heap[b]? = w.heap[b]? → Lib.TabIs P w' "internal/strconv.uint64pow10" .u64 Lib.pow10Tab
theorem Zv0.mono{P:Program}{w w':World}{S S':Nat→Prop}(h:Zv0 P w S)(hS:∀ b,S b→S' b∧w'.heap[b]?=w.heap[b]?):Zv0 P w' S':=by
 obtain⟨b,h1,h2⟩:=h
 exact⟨b,(hS b h1).1,fun w1 h3=>h2 w1 (h3.trans (hS b h1).2)⟩
structure Sok (P:Program) (w:World) (S:Nat→Prop):Prop where
 lt:∀ b,S b→b < w.heap.size
 tab:Zv0 P w S
def PFn(P:Program)(w:World)(S:Nat→Prop)(ts rs:List Ty)(pre:ZeI ts→Prop)(f:ZeI ts→ZeI rs)(c:Value):Prop :=
 ∃ (g:FuncId) (a b:Array Value),c=.func (.func g) a b∧ZbT P g ∧
  ∀ (w1:World) (S1:Nat→Prop),(∀ k,S k→S1 k∧w1.heap[k]?=w.heap[k]?)→Sok P w1 S1→∀ xs,pre xs→∀ cargs:Array Value,Zka w1 S1 ts xs cargs.toList →
   Calls P g (a++cargs++b) w1 fun e w2=>∃ v S2,e=.returned v∧ZhY w1 S1 w2 S2∧ZvC w2 S2 rs (f xs) v
theorem PFn.mono {P : Program} {w w' : World} {S S' : Nat → Prop} {ts rs : List Ty} {pre : ZeI ts → Prop} {f : ZeI ts → ZeI rs} {c : Value} (hS : ∀ b, S b → S' b ∧ w'.heap[b]? = w.heap[b]?)
 (h:PFn P w S ts rs pre f c):PFn P w' S' ts rs pre f c:=by
 obtain⟨g,a,b,h1,h2,h3⟩:=h
 exact⟨g,a,b,h1,h2,fun w1 S1 hs=>h3 w1 S1 fun k hk=>⟨(hs k (hS k hk).1).1,(hs k (hS k hk).1).2.trans (hS k hk).2⟩⟩
inductive Rep (P:Program) (E:Env):V→Value→Prop where
 | any (v):Rep P E .any v
 | d {t x v}:ZbD E.w E.S t x [v]→Rep P E (.d t x) v
 | nilp:Rep P E .nilp (.pointer none)
 | nilf:Rep P E .nilf .nilFunc
 | nils (a):Rep P E .nils (.slice a 0 0)
 | nilm:Rep P E .nilm (.map none)
 | fn {f fs cs} {a b : Array Value} : a.size = fs.length → b.size = cs.length → (∀ j, j < fs.length → Rep P E (fs.getD j .any) (a.getD j undef)) →
  (∀ j,j < cs.length→Rep P E (cs.getD j .any) (b.getD j undef))→Rep P E (.fn f fs cs) (.func f a b)
 | agg {cs} {a:Array Value}:a.size=cs.length→(∀ j,j < cs.length→Rep P E (cs.getD j .any) (a.getD j undef))→Rep P E (.agg cs) (.agg a)
 | tup {cs} {a:Array Value}:a.size=cs.length→(∀ j,j < cs.length→Rep P E (cs.getD j .any) (a.getD j undef))→Rep P E (.tup cs) (.tuple a)
 | er {cs b off} (c : Nat → Value) : E.S b → (∀ j, j < cs.length → E.w.cell? ⟨b, off + j, none⟩ = some (c j)) → (∀ j, j < cs.length → Rep P E (cs.getD j .any) (c j)) →
  Rep P E (.er cs) (.pointer (some ⟨b,off,none⟩))
 | ref {l off L}:E.loc l=some L→Rep P E (.ref l off) (.pointer (some ⟨L.b,off,none⟩))
 | rref {l i off L}:E.loc l=some L→Rep P E (.rref l i off) (.pointer (some ⟨L.b,i*L.esz+off,none⟩))
 | osl {l L}:E.loc l=some L→Rep P E (.osl l) L.v
 | osp {l lo n L c}:E.loc l=some L→L.Part lo n c→Rep P E (.osp l lo n) c
 | map {l L}:E.loc l=some L→Rep P E (.map l) (.map (some L.b))
 | when {b v x}:(b=true→Rep P E v x)→(b=false→x=undef)→Rep P E (.when b v) x
 | opt {b v x}:(b=true→Rep P E v x)→(b=false→x=.pointer none)→Rep P E (.opt b v) x
 | pf {ts rs pre f c}:PFn P E.w E.S ts rs pre f c→Rep P E (.pf ts rs pre f) c
 | yl {l L}:E.loc l=some L→Rep P E (.yl l) (.func (.yield L.b) #[] #[])
 | bsl {l n L}:E.loc l=some L→Rep P E (.bsl l n) (.slice (some ⟨L.b,0,none⟩) n n)
structure Ext (E E':Env) (M:List Nat):Prop where
 S:∀ b,E.S b→E'.S b∧E'.w.heap[b]?=E.w.heap[b]?
 loc:∀ l L,l∉M→E.loc l=some L→E'.loc l=some L
theorem Ext.refl(E:Env)(M:List Nat):Ext E E M:=⟨fun _ h=>⟨h,rfl⟩,fun _ _ _ h=>h⟩
theorem Ext.trans{A B C:Env}{M M':List Nat}(h:Ext A B M)(k:Ext B C M'):Ext A C (M'++M) :=
 ⟨fun b hb=>⟨(k.S b (h.S b hb).1).1,(k.S b (h.S b hb).1).2.trans (h.S b hb).2⟩,fun l L hl hu=>by
  simp only[List.mem_append,not_or] at hl
  exact k.loc l L hl.1 (h.loc l L hl.2 hu)⟩
theorem Rep.mono{P:Program}{E E':Env}(h:Ext E E' []){v:V}{c:Value}(r:Rep P E v c):Rep P E' v c:=by
 have hl:∀ {l L},E.loc l=some L→E'.loc l=some L:=fun k=>h.loc _ _ (by simp) k
 induction r with
 | any v=>exact .any v
 | d hc=>exact .d (hc.mono h.S)
 | nilp=>exact .nilp
 | nilf=>exact .nilf
 | nils a=>exact .nils a
 | nilm=>exact .nilm
 | fn h1 h2 _ _ i1 i2=>exact .fn h1 h2 i1 i2
 | agg h1 _ i1=>exact .agg h1 i1
 | tup h1 _ i1=>exact .tup h1 i1
 | er c hb hc _ i=>exact .er c (h.S _ hb).1 (fun j hj=>(ZdL (h.S _ hb).2 _).trans (hc j hj)) i
 | ref k=>exact .ref (hl k)
 | rref k=>exact .rref (hl k)
 | osl k=>exact .osl (hl k)
 | osp k kp=>exact .osp (hl k) kp
 | map k=>exact .map (hl k)
 | when _ h2 i1=>exact .when i1 h2
 | opt _ h2 i1=>exact .opt i1 h2
 | pf k=>exact .pf (k.mono h.S)
 | yl k=>exact .yl (hl k)
 | bsl k=>exact .bsl (hl k)
def V.isRef:V→Bool
 | .ref .. | .rref .. | .osl .. | .osp .. | .map .. | .yl _ | .bsl ..=>true
 | _=>false
mutual
def V.subst(f:V→V):V→V
 | .fn g a b=>.fn g (ZbR f a) (ZbR f b)
 | .agg cs=>.agg (ZbR f cs)
 | .tup cs=>.tup (ZbR f cs)
 | .er cs=>.er (ZbR f cs)
 | .when b v=>.when b (V.subst f v)
 | .opt b v=>.opt b (V.subst f v)
 | .ref l o=>f (.ref l o)
 | .rref l i o=>f (.rref l i o)
 | .osl l=>f (.osl l)
 | .osp l lo n=>f (.osp l lo n)
 | .map l=>f (.map l)
 | .yl l=>f (.yl l)
 | .bsl l n=>f (.bsl l n)
 | v=>v
def ZbR(f:V→V):List V→List V
 | []=>[]
 | v::l=>V.subst f v::ZbR f l
end
theorem Zcc(f:V→V):∀ l,ZbR f l=l.map (V.subst f)
 | []=>rfl
 | v::l=>by simp only[ZbR,Zcc f l,List.map_cons]
theorem ZbY{f:V→V}{l:List V}{j:Nat}(hj:j < l.length):(ZbR f l).getD j .any=(l.getD j .any).subst f:=by
 rw[Zcc,List.getD_eq_getElem?_getD,List.getD_eq_getElem?_getD,List.getElem?_map,List.getElem?_eq_getElem hj];rfl
theorem Zcq {P : Program} {E E' : Env} {f : V → V} (hS : ∀ b, E.S b → E'.S b ∧ E'.w.heap[b]? = E.w.heap[b]?) (hf : ∀ v c, v.isRef = true → Rep P E v c → Rep P E' (f v) c)
 {v:V} {c:Value} (r:Rep P E v c):Rep P E' (v.subst f) c:=by
 have len:∀ l:List V,(ZbR f l).length=l.length:=fun l=>by rw[Zcc,List.length_map]
 induction r with
 | any v=>exact .any v
 | d hc=>exact .d (hc.mono hS)
 | nilp=>exact .nilp
 | nilf=>exact .nilf
 | nils a=>exact .nils a
 | nilm=>exact .nilm
 | fn h1 h2 h3 h4 i1 i2 =>
   exact .fn (by rw[len];exact h1) (by rw[len];exact h2) (fun j hj=>by rw[len] at hj;rw[ZbY hj];exact i1 j hj) (fun j hj=>by rw[len] at hj;rw[ZbY hj];exact i2 j hj)
 | agg h1 h2 i1=>exact .agg (by rw[len];exact h1) (fun j hj=>by rw[len] at hj;rw[ZbY hj];exact i1 j hj)
 | tup h1 h2 i1=>exact .tup (by rw[len];exact h1) (fun j hj=>by rw[len] at hj;rw[ZbY hj];exact i1 j hj)
 | er c hb hc h3 i =>
   exact .er c (hS _ hb).1 (fun j hj=>by rw[len] at hj;exact (ZdL (hS _ hb).2 _).trans (hc j hj)) (fun j hj=>by rw[len] at hj;rw[ZbY hj];exact i j hj)
 | ref k=>exact hf _ _ rfl (.ref k)
 | rref k=>exact hf _ _ rfl (.rref k)
 | osl k=>exact hf _ _ rfl (.osl k)
 | osp k kp=>exact hf _ _ rfl (.osp k kp)
 | map k=>exact hf _ _ rfl (.map k)
 | when h1 h2 i1=>exact .when i1 h2
 | opt h1 h2 i1=>exact .opt i1 h2
 | pf k=>exact .pf (k.mono hS)
 | yl k=>exact hf _ _ rfl (.yl k)
 | bsl k=>exact hf _ _ rfl (.bsl k)
inductive RJ where
 | no | ret | exit (id:Nat)
def RJ.code:RJ→Option Code
 | .no=>none
 | .ret=>some .ret
 | .exit id=>some (.exit id)
inductive Obj where
 | dead
 | box (cs:List V)
 | row (t:Ty) (l:List t.den)
 | vrow (t:Ty) (l:List (List t.den)) (s:List V) (m:Nat)
 | smap (t:Ty) (m:ByteArray→Option t.den)
 | imap (t:Ty) (m:Int→Option t.den)
 | lrec (nt:Nat) (tmps:List (Nat×V)) (params:List Nat) (assign body:Code) (st:LoopState) (j:RJ)
 | dfb
abbrev Zat:=List (Nat×Obj)
def Zv(l:Nat):Zat→Option Obj
 | []=>none
 | (k,o)::r=>match Nat.beq k l with
   | true=>some o
   | false=>Zv l r
theorem Zl(k l:Nat)(o:Obj)(r:Zat):Zv l ((k,o)::r)=if k=l then some o else Zv l r:=by
 simp only[Zv]
 split
 ·rename_i h;rw[if_pos (Nat.eq_of_beq_eq_true h)]
 ·rename_i h;rw[if_neg (Nat.ne_of_beq_eq_false h)]
def Z3(w:World)(S:Nat→Prop)(t:Ty):List t.den→List Value→Prop
 | [],cs=>cs=[]
 | x::l,cs=>∃ c1 c2,cs=c1++c2∧ZbD w S t x c1∧Z3 w S t l c2
theorem Z3.mono {w w' : World} {S S' : Nat → Prop} {t : Ty} (hS : ∀ b, S b → S' b ∧ w'.heap[b]? = w.heap[b]?) :
 ∀ {l:List t.den} {cs:List Value},Z3 w S t l cs→Z3 w' S' t l cs
 | [],_,h=>h
 | _::_,_,⟨c1,c2,h,h1,h2⟩=>⟨c1,c2,h,h1.mono hS,h2.mono hS⟩
theorem Z3.length{w:World}{S:Nat→Prop}{t:Ty}:∀ {l:List t.den} {cs:List Value},Z3 w S t l cs→cs.length=l.length*t.size
 | [],_,h=>by rw[show _=_ from h];simp
 | _::l,_,⟨c1,c2,h,h1,h2⟩=>by rw[h,List.length_append,h1.length,h2.length,List.length_cons,Nat.succ_mul];omega
theorem Z3.append{w:World}{S:Nat→Prop}{t:Ty}:∀ {l l':List t.den} {cs cs':List Value},Z3 w S t l cs→Z3 w S t l' cs'→Z3 w S t (l++l') (cs++cs')
 | [],_,_,_,h,h'=>by rw[show _=_ from h];simpa using h'
 | _::_,_,_,_,⟨c1,c2,h,h1,h2⟩,h'=>⟨c1,c2++_,by rw[h,List.append_assoc],h1,h2.append h'⟩
theorem Z3.one{w:World}{S:Nat→Prop}{t:Ty}:∀ {l:List t.den} {cs:List Value},Z3 w S t l cs→∀ u∈cs,u.oneCell'=true
 | [],_,h=>by rw[show _=_ from h];simp
 | _::_,_,⟨c1,c2,h,h1,h2⟩=>by
   rw[h];intro u hu
   rcases List.mem_append.1 hu with hu | hu
   ·exact h1.one u hu
   ·exact h2.one u hu
theorem Z3.get {w : World} {S : Nat → Prop} {t : Ty} : ∀ {l : List t.den} {cs : List Value}, Z3 w S t l cs → ∀ (i : Nat) (x : t.den), l[i]? = some x →
 ∃ c,ZbD w S t x c∧∀ j u,c[j]?=some u→cs[i*t.size+j]?=some u
 | [],_,_,i,x,h=>by simp at h
 | y::l,cs,⟨c1,c2,h,h1,h2⟩,0,x,hx=>by
   simp at hx;subst hx
   refine⟨c1,h1,fun j u hj=>?_⟩
   rw[h,Nat.zero_mul,Nat.zero_add,List.getElem?_append_left (by have:=(List.getElem?_eq_some_iff.1 hj).1;exact this)]
   exact hj
 | y::l,cs,⟨c1,c2,h,h1,h2⟩,i+1,x,hx=>by
   obtain⟨c,hc,hj⟩:=h2.get i x (by simpa using hx)
   refine⟨c,hc,fun j u hu=>?_⟩
   have h1l:=h1.length
   rw[h,List.getElem?_append_right (by rw[h1l,Nat.succ_mul];omega)]
   rw[show (i+1)*t.size+j - c1.length=i*t.size+j from by rw[h1l,Nat.succ_mul];omega]
   exact hj j u hu
theorem Z3.of_get {w : World} {S : Nat → Prop} {t : Ty} : ∀ {l : List t.den} {cs : List Value}, cs.length = l.length * t.size →
 (∀ (i:Nat) (x:t.den),l[i]?=some x→∃ c,ZbD w S t x c∧∀ j u,c[j]?=some u→cs[i*t.size+j]?=some u)→Z3 w S t l cs
 | [],cs,h,_=>List.eq_nil_of_length_eq_zero (by simpa using h)
 | x::l,cs,h,hg=>by
   obtain⟨c,hc,hj⟩:=hg 0 x rfl
   have hcl:=hc.length
   have hle:t.size≤cs.length:=by rw[h,List.length_cons,Nat.succ_mul];omega
   have e:cs.take t.size=c:=by
    apply List.ext_getElem?
    intro j
    rw[List.getElem?_take]
    split
    ·rename_i hlt
     have:=hj j c[j] (List.getElem?_eq_getElem (by omega))
     rw[List.getElem?_eq_getElem (by omega:j < c.length)]
     simpa using this
    ·rw[List.getElem?_eq_none (by omega)]
   refine⟨c,cs.drop t.size,by rw[← e,List.take_append_drop],hc,Z3.of_get (by rw[List.length_drop,h,List.length_cons,Nat.succ_mul];omega) (fun i y hy=>?_)⟩
   obtain⟨c',hc',hj'⟩:=hg (i+1) y (by simpa using hy)
   refine⟨c',hc',fun j u hu=>?_⟩
   rw[List.getElem?_drop,show t.size+(i*t.size+j)=(i+1)*t.size+j from by rw[Nat.succ_mul];omega]
   exact hj' j u hu
theorem ZbO {α : Type} {A vs : List α} {o : Nat} (h : o + vs.length ≤ A.length) (k : Nat) :
 (A.take o++vs++A.drop (o+vs.length))[k]?=if k < o then A[k]? else if k < o+vs.length then vs[k - o]? else A[k]?:=by
 have hto:(A.take o).length=o:=by simp;omega
 split
 ·rw[List.append_assoc,List.getElem?_append_left (by omega),List.getElem?_take,if_pos ‹_›]
 ·split
  ·rw[List.getElem?_append_left (by simp;omega),List.getElem?_append_right (by omega),hto]
  ·rw[List.getElem?_append_right (by simp;omega),List.getElem?_drop]
   congr 1
   simp;omega
def Zeq{κ:Type}(f:κ→Value)(w:World)(S:Nat→Prop)(t:Ty)(m:κ→Option t.den)(es:Array MapEntry):Prop :=
 (∀ e∈es.toList,∃ k x,e.key=f k∧m k=some x∧ZbD w S t x [e.val]) ∧
 (∀ k x,m k=some x→∃ e∈es.toList,e.key=f k)∧(es.toList.map fun e=>e.key).Nodup
abbrev Zvl(w:World)(S:Nat→Prop)(t:Ty)(m:ByteArray→Option t.den)(es:Array MapEntry):Prop:=Zeq Value.string w S t m es
abbrev ZuZ(w:World)(S:Nat→Prop)(t:Ty)(m:Int→Option t.den)(es:Array MapEntry):Prop:=Zeq (Value.int .i64) w S t m es
theorem Zeq.mono{κ:Type}{f:κ→Value}{w w':World}{S S':Nat→Prop}{t:Ty}{m:κ→Option t.den}{es:Array MapEntry}(h:Zeq f w S t m es)(hS:∀ b,S b→S' b∧w'.heap[b]?=w.heap[b]?):Zeq f w' S' t m es :=
 ⟨fun e he=>let ⟨k,x,h1,h2,h3⟩:=h.1 e he;⟨k,x,h1,h2,h3.mono hS⟩,h.2⟩
def ZbE(t:Nat):List (Nat×V)→V
 | []=>.any
 | (u,v)::r=>match Nat.beq u t with
   | true=>v
   | false=>ZbE t r
theorem Zah(u t:Nat)(v:V)(l:List (Nat×V)):ZbE t ((u,v)::l)=if u=t then v else ZbE t l:=by
 simp only[ZbE]
 split
 ·rename_i h;rw[if_pos (Nat.eq_of_beq_eq_true h)]
 ·rename_i h;rw[if_neg (Nat.ne_of_beq_eq_false h)]
def ZaM(P:Program)(E:Env)(L:Loc):Obj→Prop
 | .dead=>True
 | .box cs=>∃ vals t,E.w.heap[L.b]?=some (.cells vals t (0,0))∧vals.size=cs.length∧∀ j,j < cs.length→Rep P E (cs.getD j .any) (vals.getD j undef)
 | .row t xs => L.esz = t.size ∧ 0 < t.size ∧ L.len = xs.length ∧ ∃ e cs, Z3 E.w E.S t xs cs ∧
  ((L.cap=0∧xs=[]) ∨
   ∃ cur,L.a=some ⟨L.b,0,none⟩∧E.w.heap[L.b]?=some (.cells cur e (0,0))∧xs.length≤L.cap∧0 < L.cap∧L.cap≤maxLen ∧
    cur.size=L.cap*t.size∧cur.toList.take (xs.length*t.size)=cs)
 | .vrow t xs s m => L.esz = 1 ∧ s.length ≤ 1 ∧ L.len = xs.length + s.length + m ∧ ∃ e cs, Z3 E.w E.S (.sl t) xs cs ∧
  ((L.cap=0∧L.len=0) ∨
   ∃ cur,L.a=some ⟨L.b,0,none⟩∧E.w.heap[L.b]?=some (.cells cur e (0,0))∧L.len≤L.cap∧0 < L.cap∧L.cap≤maxLen∧cur.size=L.cap ∧
    cur.toList.take xs.length=cs∧(∀ j,j < s.length→Rep P E (s.getD j .any) (cur.getD (xs.length+j) undef))∧∀ i,xs.length+s.length≤i→i < L.len→cur[i]?=some (.slice none 0 0))
 | .smap t m=>∃ es clock,E.w.heap[L.b]?=some (.map es clock)∧Zvl E.w E.S t m es
 | .imap t m=>∃ es clock,E.w.heap[L.b]?=some (.map es clock)∧ZuZ E.w E.S t m es
 | .lrec nt tmps params assign body st j => ∃ r : Loop, E.w.heap[L.b]? = some (.loop r) ∧ r.tmps.size = nt ∧ (∀ t, Rep P E (ZbE t tmps) (r.tmps.getD t undef)) ∧
  r.params.toList=params∧r.assign=assign∧r.body=body∧r.state=st∧r.pending=j.code
 | .dfb=>E.w.heap[L.b]?=some (.deferred (some []))
def Obj.has(o:Obj)(L:Loc):Prop :=
 match o with
 | .dead=>False
 | .row .. | .vrow ..=>L.cap≠0
 | _=>True
def ZdI(E:Env)(objs:Zat)(b:Nat):Prop:=∃ l o L,Zv l objs=some o∧E.loc l=some L∧o.has L∧L.b=b
structure Z7 (P:Program) (E:Env) (objs:Zat):Prop where
 at_:∀ l o,Zv l objs=some o→∃ L,E.loc l=some L∧ZaM P E L o
 ns:∀ b,ZdI E objs b→¬ E.S b
 sl:∀ b,E.S b→b < E.w.heap.size
 tab:Zv0 P E.w E.S
 inj:∀ l l' o o' L L',Zv l objs=some o→Zv l' objs=some o'→E.loc l=some L→E.loc l'=some L'→o.has L→o'.has L'→L.b=L'.b→l=l'
structure ZcH (E0:Env) (imp:Zat) (E:Env) (objs:Zat) (M:List Nat):Prop where
 ext:Ext E0 E M
 os:E.w.os=E0.w.os
 tape:E.w.tape=E0.w.tape
 output:E.w.output=E0.w.output
 size:E0.w.heap.size≤E.w.heap.size
 frame:∀ b,b < E0.w.heap.size→¬ ZdI E0 imp b→E.w.heap[b]?=E0.w.heap[b]?
 own:∀ b,ZdI E objs b→E0.w.heap.size≤b∨ZdI E0 imp b
 st:∀ b,E.S b→E0.S b∨E0.w.heap.size≤b∨ZdI E0 imp b
 keys:∀ l,Zv l objs=none→Zv l imp=none
 dom:∀ l,Zv l objs=none→E.loc l=E0.loc l
theorem ZcH.refl(E:Env)(objs:Zat)(M:List Nat):ZcH E objs E objs M :=
 ⟨.refl _ _,rfl,rfl,rfl,Nat.le_refl _,fun _ _ _=>rfl,fun _ h=>.inr h,fun _ h=>.inl h,fun _ h=>h,fun _ _=>rfl⟩
theorem ZcH.trans{E0 E1 E2:Env}{o0 o1 o2:Zat}{M M':List Nat}(h:ZcH E0 o0 E1 o1 M)(k:ZcH E1 o1 E2 o2 M'):ZcH E0 o0 E2 o2 (M'++M) :=
 ⟨h.ext.trans k.ext,k.os.trans h.os,k.tape.trans h.tape,k.output.trans h.output,Nat.le_trans h.size k.size,
  fun b hb hn=>(k.frame b (Nat.lt_of_lt_of_le hb h.size) (fun ho=>(h.own b ho).elim (fun h'=>by omega) hn)).trans (h.frame b hb hn),
  fun b hb=>(k.own b hb).elim (fun h'=>.inl (Nat.le_trans h.size h')) (h.own b),
  fun b hb=>(k.st b hb).elim (h.st b) (fun h'=>h'.elim (fun h'=>.inr (.inl (Nat.le_trans h.size h'))) (fun h'=>.inr (h.own b h'))),
  fun l hl=>h.keys l (k.keys l hl),fun l hl=>(k.dom l hl).trans (h.dom l (k.keys l hl))⟩
theorem ZaM.block_lt{P:Program}{E:Env}{L:Loc}{o:Obj}(h:ZaM P E L o)(hh:o.has L):L.b < E.w.heap.size:=by
 cases o with
 | dead=>exact hh.elim
 | box cs=>obtain⟨vals,t,hb,_⟩:=h;exact (Array.getElem?_eq_some_iff.1 hb).1
 | row t xs =>
   obtain⟨_,_,_,e,cs,_,h | ⟨cur,_,hb,_⟩⟩:=h
   ·exact absurd h.1 hh
   ·exact (Array.getElem?_eq_some_iff.1 hb).1
 | vrow t xs s m =>
   obtain⟨_,_,_,e,cs,_,h | ⟨cur,_,hb,_⟩⟩:=h
   ·exact absurd h.1 hh
   ·exact (Array.getElem?_eq_some_iff.1 hb).1
 | smap t m=>obtain⟨es,c,hb,_⟩:=h;exact (Array.getElem?_eq_some_iff.1 hb).1
 | imap t m=>obtain⟨es,c,hb,_⟩:=h;exact (Array.getElem?_eq_some_iff.1 hb).1
 | lrec=>obtain⟨r,hb,_⟩:=h;exact (Array.getElem?_eq_some_iff.1 hb).1
 | dfb=>exact (Array.getElem?_eq_some_iff.1 h).1
theorem Z7.sok{P:Program}{E:Env}{objs:Zat}(g:Z7 P E objs):Sok P E.w E.S:=⟨g.sl,g.tab⟩
theorem Z7.own_lt{P:Program}{E:Env}{objs:Zat}(h:Z7 P E objs){b:Nat}(hb:ZdI E objs b):b < E.w.heap.size:=by
 obtain⟨l,o,L,ho,hL,hh,rfl⟩:=hb
 obtain⟨L',hL',ha⟩:=h.at_ l o ho
 rw[hL] at hL';cases hL'
 exact ha.block_lt hh
inductive TK where
 | int (k:IntKind) | bool | str | sl (e:TypeId) | arr (n:Nat) (e:TypeId) | st (offs:List (Nat×Nat)) | ptr | map (k e:TypeId) | fn | other
structure TI where
 k:TK
 size:Nat
 bytes:Nat
 zero:List Value
 code:Option Ty
def TK.known:TK→Bool
 | .other=>false
 | _=>true
def TI.isAgg(i:TI):Bool:=match i.k with | .arr .. | .st _=>true | _=>false
structure TI.Ok (P:Program) (t:TypeId) (i:TI):Prop where
 info:∃ info z,P.info? t=some info∧info.size=i.size∧info.bytes=i.bytes∧info.zero=some z∧z.cells.toList=i.zero∧z.cells.size=i.size
 kind:match i.k with
  | .int k=>P.underlying t=some (.int k)
  | .bool=>P.underlying t=some .bool
  | .str=>P.underlying t=some .string
  | .sl e=>P.underlying t=some (.slice e)
  | .arr n e=>P.underlying t=some (.array n e)∧∃ ie ze,P.info? e=some ie∧ie.zero=some ze∧i.zero=(List.replicate n ze.cells.toList).flatten∧i.size=n*ie.size∧0 < n∧n≤9223372036854775807∧0 < ie.size
  | .st offs=>∃ fs,P.underlying t=some (.struct fs)∧fs.toList.map (fun f=>(f.offset,P.cellsOf f.type))=offs∧∀ p∈offs,p.2≠0
  | .ptr=>∃ e,P.underlying t=some (.pointer e)
  | .map k e=>P.underlying t=some (.map k e)∧∃ ie ze,P.info? e=some ie∧ie.zero=some ze∧ze.oneCell'=true
  | .fn=>∃ ps rs v,P.underlying t=some (.func ps rs v)
  | .other=>True
 code:∀ T,i.code=some T→T.size=i.size∧0 < i.size∧∀ w S,ZbD w S T T.dflt i.zero
abbrev Zar:=TypeId→Option TI
def Zbs(P:Program)(τ:Zar):Prop:=∀ t i,τ t=some i→i.Ok P t
def ZoO:Value→V
 | .int k n=>.d (.int k) n
 | .bool b=>.d .bool b
 | .string s=>.d .str s
 | .slice none 0 0=>.nils
 | .pointer none=>.nilp
 | .nilFunc=>.nilf
 | .map none=>.nilm
 | .tuple vs=>match vs.toList with | []=>.tup [] | _=>.any
 | _=>.any
def evV(tmps:List (Nat×V)):Operand→V
 | .tmp t=>ZbE t tmps
 | .const c=>ZoO c
 | .func f=>.fn (.func f) [] []
 | .global _=>.any
def V.solid:V→Bool
 | .any | .when .. | .tup _ | .agg _=>false
 | .opt _ v=>v.solid
 | _=>true
def Zid:List V→Bool
 | []=>true
 | v::l=>match v.solid with
   | true=>Zid l
   | false=>false
def V.scells:V→Option (List V)
 | .agg cs=>match Zid cs with
   | true=>some cs
   | false=>none
 | v=>match v.solid with
   | true=>some [v]
   | false=>none
def ZwC(T:Ty):V→Option (List T.den)
 | .d (.sl t) l=>if h:t=T then some (h▸l) else none
 | .nils=>some []
 | _=>none
def Zxi:IntKind→IntKind→Bool
 | .i8,.i8=>true
 | .i16,.i16=>true
 | .i32,.i32=>true
 | .i64,.i64=>true
 | .u8,.u8=>true
 | .u16,.u16=>true
 | .u32,.u32=>true
 | .u64,.u64=>true
 | _,_=>false
def ZpR(k:IntKind):List V→Option Int
 | [.d (.int k') n]=>match Zxi k' k with
   | true=>some n
   | false=>none
 | _=>none
def ZvJ:List V→Option Bool
 | [.d .bool b]=>some b
 | _=>none
def Zu1:List V→Option ByteArray
 | [.d .str s]=>some s
 | _=>none
def ZwO(t:Ty):List V→Option (List t.den)
 | [v]=>ZwC t v
 | _=>none
def ZwG:List V→Option Unit
 | []=>some ()
 | _=>none
def Zmm:(T:Ty)→List V→Option T.den
 | .int k,cs=>ZpR k cs
 | .bool,cs=>ZvJ cs
 | .str,cs=>Zu1 cs
 | .sl t,cs=>ZwO t cs
 | .pair a b,cs=>match Zmm a (cs.take a.size) with
   | some x=>match Zmm b (cs.drop a.size) with
     | some y=>some (x,y)
     | none=>none
   | none=>none
 | .unit,cs=>ZwG cs
def okP:Option Prop→Prop
 | none=>True
 | some p=>p
structure Out where
 ob:Option Prop
 v:V
 ed:Option (Nat×Obj×Bool)
def V.key:V→Option Nat
 | .ref l _ | .rref l _ _ | .osl l | .osp l _ _ | .map l | .yl l | .bsl l _=>some l
 | _=>none
def Zhq(l:Nat)(v:V):V:=match v.key with
 | some k=>match Nat.beq k l with
   | true=>.any
   | false=>v
 | none=>v
def Obj.subst(f:V→V):Obj→Obj
 | .box cs=>.box (ZbR f cs)
 | .vrow t xs s m=>.vrow t xs (ZbR f s) m
 | .lrec nt tmps ps a b st j=>.lrec nt (tmps.map fun p=>(p.1,p.2.subst f)) ps a b st j
 | o=>o
def substO(f:V→V):Zat→Zat
 | []=>[]
 | (k,o)::r=>(k,o.subst f)::substO f r
def edit(objs:Zat):Option (Nat×Obj×Bool)→Zat
 | none=>objs
 | some (l,o,false)=>(l,o)::objs
 | some (l,o,true)=>(l,o)::substO (Zhq l) objs
def moved:Option (Nat×Obj×Bool)→List Nat
 | some (l,_,true)=>[l]
 | _=>[]
def Zfb(agg:Bool)(cs:List V):Option V :=
 match agg with
 | true=>some (.agg cs)
 | false=>match cs with | [v]=>some v | _=>none
def ZlN:Nat→List V→Option (List V)
 | 0,_=>some []
 | n+1,v::l=>match ZlN n l with
   | some r=>some (v::r)
   | none=>none
 | _+1,[]=>none
def Zip:Nat→List V→List V
 | 0,l=>l
 | n+1,_::l=>Zip n l
 | _+1,[]=>[]
def putCells(cs:List V)(off:Nat)(new:List V):Option (List V) :=
 match Nat.ble (off+new.length) cs.length with
 | true=>some (cs.take off++(new++Zip (off+new.length) cs))
 | false=>none
def Zn5(τ:Zar)(os:Zat)(t:TypeId)(v:V):Option Out :=
 match τ t with
 | none=>none
 | some ti=>match ti.k.known with
   | false=>none
   | true=>match v with
     | .ref l off=>match Zv l os with
       | some (.box cs)=>match ZlN ti.size (Zip off cs) with
         | some ds=>match Zfb ti.isAgg ds with
           | some v=>some ⟨none,v,none⟩
           | none=>none
         | none=>none
       | _=>none
     | .er cs=>match ZlN ti.size cs with
       | some ds=>match Zfb ti.isAgg ds with
         | some v=>some ⟨none,v,none⟩
         | none=>none
       | none=>none
     | .rref l i off=>match Zv l os with
       | some (.row T xs)=>match ZlN ti.size (Zip off (flat T (xs.getD i T.dflt))) with
         | some ds=>match Zfb ti.isAgg ds with
           | some v=>some ⟨some (i < xs.length),v,none⟩
           | none=>none
         | none=>none
       | some (.vrow _ xs s _)=>match s with
         | [v]=>match Nat.beq off 0&&Nat.beq ti.size 1 with
           | true=>match Zfb ti.isAgg [v] with
             | some v=>some ⟨some (i=xs.length),v,none⟩
             | none=>none
           | false=>none
         | _=>none
       | _=>none
     | _=>none
def Zkk(T:Ty):Nat→List V→Option (List T.den)
 | 0,[]=>some []
 | 0,_=>none
 | n+1,cs=>match Zmm T (cs.take T.size) with
   | some x=>match Zkk T n (cs.drop T.size) with
     | some l=>match Nat.beq (cs.take T.size).length T.size with
       | true=>some (x::l)
       | false=>none
     | none=>none
   | none=>none
def Zll(τ:Zar)(os:Zat)(t:TypeId)(a x:V):Option Out :=
 match τ t with
 | none=>none
 | some ti=>match x.scells with
   | none=>none
   | some new=>match Nat.beq new.length ti.size with
     | false=>none
     | true=>match a with
       | .ref l off=>match Zv l os with
         | some (.box cs)=>match putCells cs off new with
           | some cs'=>some ⟨none,.tup [],some (l,.box cs',false)⟩
           | none=>none
         | _=>none
       | .rref l i off=>match Zv l os with
         | some (.row T xs)=>match ti.k with
           | .arr n _=>match Nat.beq i 0&&Nat.beq off 0 with
             | true=>match Zkk T n new with
               | some ys=>some ⟨some (n=xs.length),.tup [],some (l,.row T ys,false)⟩
               | none=>none
             | false=>none
           | _=>match putCells (flat T (xs.getD i T.dflt)) off new with
             | some cs=>match Zmm T cs with
               | some y=>some ⟨some (i < xs.length),.tup [],some (l,.row T (xs.set i y),false)⟩
               | none=>none
             | none=>none
         | some (.vrow T xs s m)=>match s with
           | [_]=>match new with
             | [v]=>match Nat.beq off 0 with
               | true=>some ⟨some (i=xs.length),.tup [],some (l,.vrow T xs [v] m,false)⟩
               | false=>none
             | _=>none
           | _=>none
         | _=>none
       | _=>none
def ZeM(τ:Zar)(os:Zat)(s:TypeId)(v:V)(f:Nat):Option Out :=
 match τ s with
 | some ⟨.st offs,_,_,_,_⟩=>match offs[f]? with
   | some (o,_)=>match v with
     | .ref l off=>some ⟨none,.ref l (off+o),none⟩
     | .er cs=>some ⟨none,.er (Zip o cs),none⟩
     | .rref l i off=>some ⟨none,.rref l i (off+o),none⟩
     | _=>none
   | none=>none
 | _=>none
def Zfe(τ:Zar)(os:Zat)(t:TypeId)(x ix:V):Option Out :=
 match τ t with
 | some ⟨.sl e,_,_,_,_⟩=>match ix with
   | .d (.int _) i=>match τ e with
     | some ei=>match x with
       | .d (.sl T) l=>match Nat.beq T.size ei.size with
         | true=>some ⟨some (0≤i∧i < (List.length (α:=T.den) l:Int)),.er (flat T (List.getD (α:=T.den) l i.toNat T.dflt)),none⟩
         | false=>none
       | .osl l=>match Zv l os with
         | some (.row T xs)=>match Nat.beq T.size ei.size with
           | true=>some ⟨some (0≤i∧i < (xs.length:Int)),.rref l i.toNat 0,none⟩
           | false=>none
         | some (.vrow _ xs s m)=>match Nat.beq ei.size 1 with
           | true=>match s with
             | []=>none
             | _::_=>some ⟨some (0≤i∧i < ((xs.length+1+m:Nat):Int)),.rref l i.toNat 0,none⟩
           | false=>none
         | _=>none
       | .osp l lo n=>match Zv l os with
         | some (.row T xs)=>match Nat.beq T.size ei.size with
           | true=>some ⟨some (0≤i∧i < (n:Int)∧lo+n≤xs.length),.rref l (lo+i.toNat) 0,none⟩
           | false=>none
         | _=>none
       | .bsl l n=>match i with
         | .ofNat i=>match Nat.blt i n&&Nat.beq ei.size 1 with
           | true=>some ⟨none,.ref l i,none⟩
           | false=>none
         | _=>none
       | .nils=>match ei.code with
         | some T=>some ⟨some False,.er (flat T T.dflt),none⟩
         | none=>none
       | _=>none
     | none=>none
   | _=>none
 | some ⟨.arr n e,_,_,_,_⟩=>match ix with
   | .d (.int _) i=>match τ e with
     | some ei=>match x with
       | .rref l 0 0=>match Zv l os with
         | some (.row T xs)=>match Nat.beq T.size ei.size with
           | true=>some ⟨some (0≤i∧i < (n:Int)),.rref l i.toNat 0,none⟩
           | false=>none
         | _=>none
       | _=>none
     | none=>none
   | _=>none
 | _=>none
def Zm:IntKind→Int→Prop
 | .i8,n=>-128≤n∧n≤127
 | .i16,n=>-32768≤n∧n≤32767
 | .i32,n=>-2147483648≤n∧n≤2147483647
 | .i64,n=>-9223372036854775808≤n∧n≤9223372036854775807
 | .u8,n=>0≤n∧n≤255
 | .u16,n=>0≤n∧n≤65535
 | .u32,n=>0≤n∧n≤4294967295
 | .u64,n=>0≤n∧n≤18446744073709551615
def wr(k:IntKind)(n:Int):Out:=match k.signed with
 | true=>⟨some (Zm k n),.d (.int k) n,none⟩
 | false=>⟨none,.d (.int k) (k.wrap n),none⟩
def wrD(k:IntKind)(p:Prop)(n:Int):Out:=match k.signed with
 | true=>⟨some (p∧Zm k n),.d (.int k) n,none⟩
 | false=>⟨some p,.d (.int k) (k.wrap n),none⟩
def Zt5(τ:Zar):Bool:=match τ 1 with
 | some _=>false
 | none=>true
def wrA(wm:Bool)(k:IntKind)(n:Int):Out:=match wm with
 | true=>⟨none,.d (.int k) (k.wrap n),none⟩
 | false=>wr k n
def Zsp(wm:Bool)(op:BinOp)(k:IntKind)(a b:Int):Option Out :=
 match op with
 | .add=>some (wrA wm k (a+b))
 | .sub=>some (wr k (a - b))
 | .mul=>some (wr k (a*b))
 | .quo=>some (wrD k (b≠0) (a.tdiv b))
 | .rem=>some ⟨some (b≠0),.d (.int k) (a.tmod b),none⟩
 | .eql=>some ⟨none,.d .bool (a == b),none⟩
 | .neq=>some ⟨none,.d .bool (a != b),none⟩
 | .lss=>some ⟨none,.d .bool (decide (a < b)),none⟩
 | .leq=>some ⟨none,.d .bool (decide (a≤b)),none⟩
 | .gtr=>some ⟨none,.d .bool (decide (b < a)),none⟩
 | .geq=>some ⟨none,.d .bool (decide (b≤a)),none⟩
 | .and=>some ⟨none,.d (.int k) (k.wrap ((BitVec.ofInt k.bits a &&& BitVec.ofInt k.bits b).toNat:Int)),none⟩
 | .or=>some ⟨none,.d (.int k) (k.wrap ((BitVec.ofInt k.bits a ||| BitVec.ofInt k.bits b).toNat:Int)),none⟩
 | _=>none
def ZeX(op:BinOp)(b:Bool):Option Out:=match op with
 | .eql=>some ⟨none,.d .bool b,none⟩
 | .neq=>some ⟨none,.d .bool (!b),none⟩
 | _=>none
def Zrz(τ:Zar)(op:BinOp)(xt:TypeId)(x y:V):Option Out :=
 match x with
 | .d (.int k) a=>match y with
   | .d (.int k') b=>match op with
     | .shl=>some ⟨some (0≤b),.d (.int k) (k.wrap (a*2 ^ (min b.toNat k.bits))),none⟩
     | .shr=>some ⟨some (0≤b),.d (.int k) (a.fdiv (2 ^ (min b.toNat k.bits))),none⟩
     | op=>match Zxi k k' with
       | true=>Zsp (Zt5 τ) op k a b
       | false=>none
   | _=>none
 | .d .bool a=>match y with
   | .d .bool b=>match τ xt with
     | some ⟨.bool,_,_,_,_⟩=>match op with
       | .eql=>some ⟨none,.d .bool (a == b),none⟩
       | .neq=>some ⟨none,.d .bool (a != b),none⟩
       | _=>none
     | _=>none
   | _=>none
 | p=>match y with
   | .nilp=>match τ xt with
     | some ⟨.ptr,_,_,_,_⟩=>match p with
       | .nilp=>ZeX op true
       | .er _=>ZeX op false
       | .opt b (.er _)=>ZeX op (!b)
       | _=>none
     | _=>none
   | _=>none
def ZvI(op:UnOp)(x:V):Option Out :=
 match op with
 | .neg=>match x with
   | .d (.int k) n=>some (wr k (-n))
   | _=>none
 | .not=>match x with
   | .d .bool b=>some ⟨none,.d .bool (!b),none⟩
   | _=>none
 | _=>none
def ZdY(s:ByteArray):List Int:=s.data.toList.map fun b=>(b.toNat:Int)
def Zce(l:List Int):ByteArray:=⟨(l.map fun n=>UInt8.ofNat n.toNat).toArray⟩
def Zui(T:Ty)(os:Zat):V→Option (List T.den×Option Prop)
 | .osl l=>match Zv l os with
   | some (.row t xs)=>if h:t=T then some (h▸xs,none) else none
   | _=>none
 | .osp l lo n=>match Zv l os with
   | some (.row t xs)=>if h:t=T then some (((h▸xs:List T.den).drop lo).take n,some (lo+n≤xs.length)) else none
   | _=>none
 | v=>match ZwC T v with
   | some l=>some (l,none)
   | none=>none
def Zvr(T:Ty)(os:Zat):V→Option (List T.den×Option Prop)
 | .d .str s=>match T with
   | .int .u8=>some (ZdY s,none)
   | _=>none
 | v=>Zui T os v
def Zhi(τ:Zar)(os:Zat)(src dst:TypeId)(x:V):Option Out :=
 match τ src with
 | some ⟨.int _,_,_,_,_⟩=>match τ dst with
   | some ⟨.int k,_,_,_,_⟩=>match x with
     | .d (.int _) n=>some (wr k n)
     | _=>none
   | _=>none
 | some ⟨.sl e,_,_,_,_⟩=>match τ dst with
   | some ⟨.str,_,_,_,_⟩=>match τ e with
     | some ⟨.int .u8,_,_,_,_⟩=>match x with
       | .osl l=>match Zv l os with
         | some (.row (.int .u8) xs)=>some ⟨none,.d .str (Zce xs),none⟩
         | _=>none
       | .nils=>some ⟨none,.d .str ByteArray.empty,none⟩
       | _=>none
     | _=>none
   | _=>none
 | _=>none
def ZmE:List Value→List V
 | []=>[]
 | v::l=>ZoO v::ZmE l
def Zk8(τ:Zar)(n:Nat)(t:TypeId):Option Out :=
 match τ t with
 | some ⟨.arr m e,_,_,zero,_⟩=>match τ e with
   | some ⟨_,_,_,_,some T⟩=>some ⟨none,.rref n 0 0,some (n,.row T (List.replicate m T.dflt),false)⟩
   | some ⟨_,_,_,_,none⟩=>some ⟨none,.ref n 0,some (n,.box (ZmE zero),false)⟩
   | none=>none
 | some ⟨_,_,_,zero,_⟩=>some ⟨none,.ref n 0,some (n,.box (ZmE zero),false)⟩
 | none=>none
def Zsi(n:Nat)(x:V):Option Out :=
 match x.scells with
 | some cs=>some ⟨none,.ref n 0,some (n,.box cs,false)⟩
 | none=>none
def Zqi(offs:List (Nat×Nat)):List V→List (Nat×V)→Option (List V)
 | cs,[]=>some cs
 | cs,(i,v)::r=>match offs[i]? with
   | some (o,n)=>match v.scells with
     | some new=>match Nat.beq new.length n with
       | true=>match putCells cs o new with
         | some cs'=>Zqi offs cs' r
         | none=>none
       | false=>none
     | none=>none
   | none=>none
def Zl2(τ:Zar)(t:TypeId)(parts:List (Nat×V)):Option Out :=
 match τ t with
 | some ⟨.st offs,_,_,zero,_⟩=>match Zqi offs (ZmE zero) parts with
   | some cs=>some ⟨none,.agg cs,none⟩
   | none=>none
 | some ⟨.arr n e,_,_,zero,_⟩=>match τ e with
   | some ei=>match Zqi ((List.range n).map fun i=>(i*ei.size,ei.size)) (ZmE zero) parts with
     | some cs=>some ⟨none,.agg cs,none⟩
     | none=>none
   | none=>none
 | _=>none
def ZiD(T:Ty):Nat→List (Nat×V)→Option (List T.den)
 | _,[]=>some []
 | n,(i,v)::r=>match Nat.beq i n with
   | true=>match v.scells with
     | some cs=>match Zmm T cs with
       | some x=>match ZiD T (n+1) r with
         | some l=>some (x::l)
         | none=>none
       | none=>none
     | none=>none
   | false=>none
def cellsOf:Nat→List (Nat×V)→Option (List V)
 | _,[]=>some []
 | n,(i,v)::r=>match Nat.beq i n with
   | true=>match v.solid with
     | true=>match cellsOf (n+1) r with
       | some l=>some (v::l)
       | none=>none
     | false=>none
   | false=>none
def Zey(τ:Zar)(n:Nat)(t:TypeId)(len:Nat)(parts:List (Nat×V)):Option Out :=
 match τ t with
 | some ⟨.sl e,_,_,_,_⟩=>match τ e with
   | some ⟨_,size,_,_,some T⟩=>match Nat.beq len parts.length&&Nat.ble (len*size) 16777216 with
     | true=>match ZiD T 0 parts with
       | some xs=>some ⟨none,.osl n,some (n,.row T xs,false)⟩
       | none=>none
     | false=>none
   | some ⟨_,size,_,_,none⟩=>match Nat.beq len parts.length&&Nat.ble len 16777216&&Nat.beq size 1&&Nat.blt 0 len with
     | true=>match cellsOf 0 parts with
       | some cs=>some ⟨none,.bsl n len,some (n,.box cs,false)⟩
       | none=>none
     | false=>none
   | none=>none
 | _=>none
def ZsR(τ:Zar)(zs:List Value)(T:Ty)(m:Nat):Obj:=match T with
 | .sl u=>match τ 2 with
   | none=>match zs with
     | [.slice none 0 0]=>.vrow u [] [] m
     | _=>.row (.sl u) (List.replicate m [])
   | some _=>.row (.sl u) (List.replicate m [])
 | T=>.row T (List.replicate m T.dflt)
def Zfc(τ:Zar)(n:Nat)(t:TypeId)(l c:V):Option Out :=
 match τ t with
 | some ⟨.sl e,_,_,_,_⟩=>match l with
   | .d (.int .i64) l=>match c with
     | .d (.int .i64) c=>match τ e with
       | some ⟨_,_,bytes,zs,some T⟩=>some ⟨some (0≤l∧l≤c∧c*bytes≤140737488355328∧c≤9223372036854775807),.osl n,some (n,ZsR τ zs T l.toNat,false)⟩
       | _=>none
     | _=>none
   | _=>none
 | _=>none
def ZvD(τ:Zar)(t:TypeId):Bool:=match τ t with
 | some ⟨.sl _,_,_,_,_⟩ | some ⟨.str,_,_,_,_⟩=>true
 | _=>false
def ZqD(p:Prop):Option Prop→Prop
 | none=>p
 | some q=>q∧p
def ZvK(l:Nat):V→Bool
 | .osp k _ _=>Nat.beq k l
 | _=>false
def Zeb(τ:Zar)(os:Zat)(n:Nat)(ts tx:TypeId)(s x:V):Option Out :=
 match τ ts with
 | some ⟨.sl e,_,_,_,_⟩=>match τ e with
   | some ⟨_,_,bytes,_,some T⟩=>match ZvD τ tx with
     | true=>match Zvr T os x with
       | some (ys,p)=>match s with
         | .nils=>some ⟨some (ZqD (ys.length*bytes≤140737488355328∧ys.length≤9223372036854775807) p),.osl n,some (n,.row T ys,false)⟩
         | .osl l=>match Zv l os with
           | some (.row t xs) => if h : t = T then
            some ⟨some (ZqD ((xs.length+ys.length)*bytes≤140737488355328∧xs.length+ys.length≤9223372036854775807) p),.osl l,some (l,.row T ((h▸xs:List T.den)++ys),true)⟩ else none
           | _=>none
         | .osp l 0 k=>match Zv l os with
           | some (.row t xs)=>if h:t=T then match ZvK l x with
             | true=>some ⟨some (ZqD (k+ys.length≤xs.length) p),.osp l 0 (k+ys.length),some (l,.row T ((h▸xs:List T.den).take k++ys++(h▸xs:List T.den).drop (k+ys.length)),false)⟩
             | false=>some ⟨some (k≤xs.length∧ZqD ((k+ys.length)*bytes≤140737488355328∧k+ys.length≤9223372036854775807) p),.osl l,some (l,.row T ((h▸xs:List T.den).take k++ys),true)⟩ else none
           | _=>none
         | _=>none
       | none=>none
     | false=>match τ tx with
       | some ⟨.int .i64,_,_,_,_⟩=>match x with
         | .d (.int .i64) m=>match s with
           | .nils=>some ⟨some (0≤m∧m*bytes≤140737488355328∧m≤9223372036854775807),.osl n,some (n,.row T (List.replicate m.toNat T.dflt),false)⟩
           | .osl l=>match Zv l os with
             | some (.row t xs) => if h : t = T then
              some ⟨some (0≤m∧(xs.length+m.toNat)*bytes≤140737488355328∧xs.length+m.toNat≤9223372036854775807),.osl l,some (l,.row T ((h▸xs:List T.den)++List.replicate m.toNat T.dflt),true)⟩ else none
             | _=>none
           | _=>none
         | _=>none
       | _=>none
   | _=>none
 | _=>none
def ZsD(τ:Zar)(os:Zat)(t:TypeId)(x:V):Option Out :=
 match τ t with
 | some ⟨.sl _,_,_,_,_⟩=>match x with
   | .d (.sl T) l=>some ⟨none,.d (.int .i64) (List.length (α:=T.den) l:Int),none⟩
   | .nils=>some ⟨none,.d (.int .i64) (0:Int),none⟩
   | .osl l=>match Zv l os with
     | some (.row _ xs)=>some ⟨none,.d (.int .i64) (xs.length:Int),none⟩
     | _=>none
   | .osp _ _ n=>some ⟨none,.d (.int .i64) (n:Int),none⟩
   | .bsl _ n=>some ⟨none,.d (.int .i64) (n:Int),none⟩
   | _=>none
 | some ⟨.str,_,_,_,_⟩=>match x with
   | .d .str s=>some ⟨none,.d (.int .i64) (s.size:Int),none⟩
   | _=>none
 | some ⟨.arr n _,_,_,_,_⟩=>some ⟨none,.d (.int .i64) (n:Int),none⟩
 | _=>none
def Zmr{α:Type}(xs ys:List α)(lo n:Nat):List α:=xs.take lo++ys.take (min ys.length n)++xs.drop (lo+min ys.length n)
def ZnD(τ:Zar)(os:Zat)(td tx:TypeId)(d x:V):Option Out :=
 match τ td with
 | some ⟨.sl e,_,_,_,_⟩=>match τ tx with
   | some ⟨.sl _,_,_,_,_⟩=>match τ e with
     | some ⟨_,_,_,_,some T⟩=>match Zui T os x with
       | some (ys,p)=>match d with
         | .osl l=>match Zv l os with
           | some (.row t xs) => if h : t = T then
            some ⟨p,.d (.int .i64) (min ys.length xs.length:Nat),some (l,.row T (Zmr (h▸xs:List T.den) ys 0 xs.length),false)⟩ else none
           | _=>none
         | .osp l lo n=>match Zv l os with
           | some (.row t xs) => if h : t = T then
            some ⟨some (ZqD (lo+n≤xs.length) p),.d (.int .i64) (min ys.length n:Nat),some (l,.row T (Zmr (h▸xs:List T.den) ys lo n),false)⟩ else none
           | _=>none
         | _=>none
       | none=>none
     | _=>none
   | _=>none
 | _=>none
def ZjI(mk:Nat→Nat→V)(base n:Nat)(lo hi:Option V):Option Out :=
 match lo with
 | none=>match hi with
   | none=>some ⟨none,mk base n,none⟩
   | some h=>match h with
     | .d (.int _) h=>some ⟨some (0≤h∧h≤(n:Int)),mk base h.toNat,none⟩
     | _=>none
 | some a=>match a with
   | .d (.int _) a=>match hi with
     | none=>some ⟨some (0≤a∧a≤(n:Int)),mk (base+a.toNat) (n - a.toNat),none⟩
     | some h=>match h with
       | .d (.int _) h=>some ⟨some (0≤a∧a≤h∧h≤(n:Int)),mk (base+a.toNat) (h.toNat - a.toNat),none⟩
       | _=>none
   | _=>none
def Zwl(lo hi mx:Option V):Bool:=match lo with
 | none=>match hi with
   | some (.d (.int _) (.ofNat 0))=>match mx with
     | some (.d (.int _) (.ofNat 0))=>true
     | _=>false
   | _=>false
 | _=>false
def ZrD(mx:Option V)(n:Nat):Option (Option Prop):=match mx with
 | none=>some none
 | some (.d (.int _) m)=>some (some (m=(n:Int)))
 | _=>none
def ZuX(n m:Nat):Option V→Nat
 | none=>n
 | some _=>m
def Zl7(τ:Zar)(os:Zat)(t:TypeId)(x:V)(lo hi mx:Option V):Option Out :=
 match τ t with
 | some ⟨.sl e,_,_,_,_⟩=>match τ e with
   | some ei=>match x with
     | .d (.sl T) l=>match Nat.beq T.size ei.size&&Nat.blt 0 T.size with
       | true=>match mx with
         | none=>match lo with
           | none=>match hi with
             | none=>some ⟨none,.d (.sl T) l,none⟩
             | some h=>match h with
               | .d (.int _) h=>some ⟨some (0≤h∧h≤(List.length (α:=T.den) l:Int)),.d (.sl T) (List.take (α:=T.den) h.toNat l),none⟩
               | _=>none
           | some a=>match a with
             | .d (.int _) a=>match hi with
               | none=>some ⟨some (0≤a∧a≤(List.length (α:=T.den) l:Int)),.d (.sl T) (List.drop (α:=T.den) a.toNat l),none⟩
               | some h=>match h with
                 | .d (.int _) h=>some ⟨some (0≤a∧a≤h∧h≤(List.length (α:=T.den) l:Int)),.d (.sl T) ((List.take (α:=T.den) h.toNat l).drop a.toNat),none⟩
                 | _=>none
             | _=>none
         | some _=>match Zwl lo hi mx with
           | true=>some ⟨none,.nils,none⟩
           | false=>none
       | false=>none
     | .osl l=>match Zv l os with
       | some (.row T xs)=>match Nat.beq T.size ei.size with
         | true=>match ZrD mx xs.length with
           | some m=>match ZjI (.osp l) 0 xs.length lo hi with
             | some ⟨ob,v,ed⟩=>match m with
               | none=>some ⟨ob,v,ed⟩
               | some m=>match hi with
                 | some _=>some ⟨some (ZqD m ob),.any,none⟩
                 | none=>none
             | none=>none
           | none=>none
         | false=>none
       | _=>none
     | .osp l base n=>match Zv l os with
       | some (.row T xs)=>match Nat.beq T.size ei.size with
         | true=>match mx with
           | none=>match ZjI (.osp l) base (ZuX n (xs.length - base) hi) lo hi with
             | some ⟨ob,v,ed⟩=>some ⟨some (ZqD (base+n≤xs.length) ob),v,ed⟩
             | none=>none
           | some _=>none
         | false=>none
       | _=>none
     | .nils=>match mx with
       | none=>match ZjI (fun _ _=>.nils) 0 0 lo hi with
         | some o=>some o
         | none=>none
       | some _=>none
     | _=>none
   | none=>none
 | _=>none
def Zgp(mx:Bool)(x y:V):Option Out :=
 match x with
 | .d (.int k) a=>match y with
   | .d (.int k') b=>match Zxi k k' with
     | true=>match mx with
       | true=>some ⟨none,.d (.int k) (max a b),none⟩
       | false=>some ⟨none,.d (.int k) (min a b),none⟩
     | false=>none
   | _=>none
 | _=>none
def ZdP{α β:Type} [DecidableEq α](m:α→Option β)(k:α)(x:β):α→Option β:=fun j=>if j=k then some x else m j
def Zg8(τ:Zar)(n:Nat)(t:TypeId):Option Out :=
 match τ t with
 | some ⟨.map k e,_,_,_,_⟩=>match τ e with
   | some ⟨_,_,_,_,some T⟩=>match Nat.beq T.size 1 with
     | true=>match τ k with
       | some ⟨.str,_,_,_,_⟩=>some ⟨none,.map n,some (n,.smap T (fun _=>none),false)⟩
       | some ⟨.int .i64,_,_,_,_⟩=>some ⟨none,.map n,some (n,.imap T (fun _=>none),false)⟩
       | _=>none
     | false=>none
   | _=>none
 | _=>none
def ZvG(ok:Bool)(T:Ty)(x:Option T.den):V:=match ok with
 | true=>.tup [.d T (x.getD T.dflt),.d .bool x.isSome]
 | false=>.d T (x.getD T.dflt)
def ZiJ(τ:Zar)(os:Zat)(t:TypeId)(m k:V)(ok:Bool):Option Out :=
 match τ t with
 | some ⟨.map kt e,_,_,_,_⟩=>match m with
   | .map l=>match τ e with
     | some ⟨_,_,_,_,some T⟩=>match τ kt with
       | some ⟨.str,_,_,_,_⟩=>match Zv l os with
         | some (.smap T' f)=>match k with
           | .d .str s=>if T'=T then match Nat.beq T.size 1 with
             | true=>some ⟨none,ZvG ok T' (f s),none⟩
             | false=>none
             else none
           | _=>none
         | _=>none
       | some ⟨.int .i64,_,_,_,_⟩=>match Zv l os with
         | some (.imap T' f)=>match k with
           | .d (.int .i64) n=>if T'=T then match Nat.beq T.size 1 with
             | true=>some ⟨none,ZvG ok T' (f n),none⟩
             | false=>none
             else none
           | _=>none
         | _=>none
       | _=>none
     | _=>none
   | _=>none
 | _=>none
def ZeT(τ:Zar)(os:Zat)(t:TypeId)(m k x:V):Option Out :=
 match τ t with
 | some ⟨.map kt e,_,_,_,_⟩=>match m with
   | .map l=>match τ kt with
     | some ⟨.str,_,_,_,_⟩=>match Zv l os with
       | some (.smap T f)=>match k with
         | .d .str s=>match Zmm T [x] with
           | some y=>some ⟨none,.tup [],some (l,.smap T (ZdP f s y),false)⟩
           | none=>none
         | _=>none
       | _=>none
     | some ⟨.int .i64,_,_,_,_⟩=>match Zv l os with
       | some (.imap T f)=>match k with
         | .d (.int .i64) n=>match Zmm T [x] with
           | some y=>some ⟨none,.tup [],some (l,.imap T (ZdP f n y),false)⟩
           | none=>none
         | _=>none
       | _=>none
     | _=>none
   | _=>none
 | _=>none
def Zk7(τ:Zar)(os:Zat)(t:TypeId)(x:V):Option Out :=
 match τ t with
 | some ⟨.sl e,_,_,_,_⟩=>match x with
   | .osp l lo n=>match τ e with
     | some ⟨_,_,_,_,some T⟩=>match Zv l os with
       | some (.row t xs)=>if t=T then some ⟨some (lo+n≤xs.length),.tup [],some (l,.row t (xs.take lo++List.replicate n t.dflt++xs.drop (lo+n)),false)⟩ else none
       | _=>none
     | _=>none
   | _=>none
 | _=>none
def Zgq(τ:Zar)(t:TypeId)(x ix:V):Option Out :=
 match τ t with
 | some ⟨.arr n e,_,_,_,_⟩=>match x with
   | .agg cs=>match ix with
     | .d (.int _) (.ofNat i)=>match τ e with
       | some ei=>match Nat.blt i n&&Nat.beq ei.size 1&&!ei.isAgg&&ei.k.known with
         | true=>match cs[i]? with
           | some v=>some ⟨none,v,none⟩
           | none=>none
         | false=>none
       | none=>none
     | _=>none
   | _=>none
 | _=>none
def Zhg(τ:Zar)(os:Zat)(n:Nat)(b:Builtin)(ts:List TypeId)(args:List V):Option Out :=
 match b with
 | .len=>match ts with
   | [t]=>match args with
     | [x]=>ZsD τ os t x
     | _=>none
   | _=>none
 | .append=>match ts with
   | [t,u]=>match args with
     | [s,x]=>Zeb τ os n t u s x
     | _=>none
   | _=>none
 | .copy=>match ts with
   | [t,u]=>match args with
     | [d,x]=>ZnD τ os t u d x
     | _=>none
   | _=>none
 | .min=>match args with
   | [x,y]=>Zgp false x y
   | _=>none
 | .max=>match args with
   | [x,y]=>Zgp true x y
   | _=>none
 | .clear=>match ts with
   | [t]=>match args with
     | [x]=>Zk7 τ os t x
     | _=>none
   | _=>none
 | .cap=>match ts with
   | [t]=>match args with
     | [.nils]=>match τ t with
       | some ⟨.sl _,_,_,_,_⟩=>some ⟨none,.d (.int .i64) (0:Int),none⟩
       | _=>none
     | _=>none
   | _=>none
 | _=>none
def ZtR:V→Option (Option Prop×Bool)
 | .d .bool b=>some (none,b)
 | .when g (.d .bool b)=>some (some (g=true),b)
 | _=>none
def ZoX(c:Bool):Option Prop→Option Prop→Option Prop
 | none,none=>none
 | some p,none=>some (c=true→p)
 | none,some q=>some (c=false→q)
 | some p,some q=>some ((c=true→p)∧(c=false→q))
def Zn1(a b:Operand)(c x y:V):Option Out :=
 match c with
 | .d .bool c=>match ZtR x with
   | some (gx,x)=>match ZtR y with
     | some (gy,y)=>match a with
       | .const (.bool true)=>some ⟨ZoX c none gy,.d .bool (c||y),none⟩
       | _=>match b with
         | .const (.bool false)=>some ⟨ZoX c gx none,.d .bool (c&&x),none⟩
         | _=>some ⟨ZoX c gx gy,.d .bool (cond c x y),none⟩
     | none=>none
   | none=>none
 | _=>none
def Zb4(tmps:List (Nat×V)):List Operand→List V
 | []=>[]
 | x::l=>evV tmps x::Zb4 tmps l
def ZgA(tmps:List (Nat×V)):List (Nat×Operand)→List (Nat×V)
 | []=>[]
 | (i,x)::l=>(i,evV tmps x)::ZgA tmps l
def Zs8(tmps:List (Nat×V)):Option Operand→Option V
 | none=>none
 | some x=>some (evV tmps x)
def eff(τ:Zar)(op:Op)(tmps:List (Nat×V))(os:Zat)(n:Nat):Option Out :=
 match op with
 | .move x=>some ⟨none,evV tmps x,none⟩
 | .assign x=>some ⟨none,evV tmps x,none⟩
 | .pick c a b=>Zn1 a b (evV tmps c) (evV tmps a) (evV tmps b)
 | .alloc t=>Zk8 τ n t
 | .box _ x=>Zsi n (evV tmps x)
 | .build t parts=>Zl2 τ t (ZgA tmps parts.toList)
 | .buildSlice t m parts=>Zey τ n t m (ZgA tmps parts.toList)
 | .load t a=>Zn5 τ os t (evV tmps a)
 | .store t a x=>Zll τ os t (evV tmps a) (evV tmps x)
 | .nilCheck x=>match evV tmps x with
   | .ref l o=>some ⟨none,.ref l o,none⟩
   | .er cs=>some ⟨none,.er cs,none⟩
   | .opt b (.er cs)=>some ⟨some (b=true),.er cs,none⟩
   | .fn (.func f) a b=>some ⟨none,.fn (.func f) a b,none⟩
   | _=>none
 | .binOp op xt x y _=>Zrz τ op xt (evV tmps x) (evV tmps y)
 | .unOp op _ x=>ZvI op (evV tmps x)
 | .convert a b x=>Zhi τ os a b (evV tmps x)
 | .makeFunc f a b=>some ⟨none,.fn f (Zb4 tmps a.toList) (Zb4 tmps b.toList),none⟩
 | .makeSlice t l c=>Zfc τ n t (evV tmps l) (evV tmps c)
 | .slice t x lo hi mx=>Zl7 τ os t (evV tmps x) (Zs8 tmps lo) (Zs8 tmps hi) (Zs8 tmps mx)
 | .fieldAddr t x f=>ZeM τ os t (evV tmps x) f
 | .indexAddr t x i=>Zfe τ os t (evV tmps x) (evV tmps i)
 | .index t x i=>Zgq τ t (evV tmps x) (evV tmps i)
 | .makeMap t none=>Zg8 τ n t
 | .lookup t m k ok=>ZiJ τ os t (evV tmps m) (evV tmps k) ok
 | .mapUpdate t m k x=>ZeT τ os t (evV tmps m) (evV tmps k) (evV tmps x)
 | .extract x i=>match evV tmps x with
   | .tup vs=>match vs[i]? with
     | some v=>some ⟨none,v,none⟩
     | none=>none
   | _=>none
 | .call { callee:=.builtin b,args,argTypes }=>Zhg τ os n b argTypes.toList (Zb4 tmps args.toList)
 | _=>none
section
section inv
variable {P:Program} {E:Env} {c:Value}
theorem Rep.int_inv{k:IntKind}{n:Int}(h:Rep P E (.d (.int k) n) c):c=.int k n:=by
 cases h with | d h=>simpa[ZbD] using h
theorem Rep.bool_inv{b:Bool}(h:Rep P E (.d .bool b) c):c=.bool b:=by
 cases h with | d h=>simpa[ZbD] using h
theorem Rep.str_inv{s:ByteArray}(h:Rep P E (.d .str s) c):c=.string s:=by
 cases h with | d h=>simpa[ZbD] using h
theorem Rep.mk_int(k:IntKind)(n:Int):Rep P E (.d (.int k) n) (.int k n):=.d rfl
theorem Rep.mk_bool(b:Bool):Rep P E (.d .bool b) (.bool b):=.d rfl
theorem Rep.mk_str(s:ByteArray):Rep P E (.d .str s) (.string s):=.d rfl
theorem Zo0{T:Ty}{v:V}{l:List T.den}(h:ZwC T v=some l)(r:Rep P E v c):ZbD E.w E.S (.sl T) l [c]:=by
 unfold ZwC at h
 split at h
 ·split at h
  ·rename_i ht
   subst ht
   cases h
   cases r with | d h=>exact h
  ·cases h
 ·cases h
  cases r
  exact⟨_,_,rfl,⟨Nat.le_refl _,Nat.zero_le _⟩,fun h=>absurd rfl h⟩
 ·cases h
def Zby(P:Program)(E:Env)(vs:List V)(cs:List Value):Prop:=cs.length=vs.length∧∀ j,j < vs.length→Rep P E (vs.getD j .any) (cs.getD j undef)
theorem Zby.nil:Zby P E [] []:=⟨rfl,fun j h=>absurd h (by simp)⟩
theorem Zby.cons{v:V}{vs:List V}{c:Value}{cs:List Value}(h:Rep P E v c)(r:Zby P E vs cs):Zby P E (v::vs) (c::cs) :=
 ⟨by simp[r.1],fun j hj=>by cases j with | zero=>simpa using h | succ j=>simpa using r.2 j (by simpa using hj)⟩
theorem Zby.head{v:V}{vs:List V}{c:Value}{cs:List Value}(r:Zby P E (v::vs) (c::cs)):Rep P E v c:=by simpa using r.2 0 (by simp)
theorem Zby.tail{v:V}{vs:List V}{c:Value}{cs:List Value}(r:Zby P E (v::vs) (c::cs)):Zby P E vs cs :=
 ⟨by simpa using r.1,fun j hj=>by simpa using r.2 (j+1) (by simpa using hj)⟩
theorem Zby.append{vs ws:List V}{cs ds:List Value}(h:Zby P E vs cs)(k:Zby P E ws ds):Zby P E (vs++ws) (cs++ds):=by
 induction vs generalizing cs with
 | nil =>
   have:cs=[]:=List.eq_nil_of_length_eq_zero (by simpa using h.1)
   subst this;simpa using k
 | cons v vs ih =>
   cases cs with
   | nil=>have:=h.1;simp at this
   | cons c cs=>exact .cons h.head (ih h.tail)
theorem Zby.take{vs:List V}{cs:List Value}(h:Zby P E vs cs)(n:Nat):Zby P E (vs.take n) (cs.take n):=by
 induction vs generalizing cs n with
 | nil =>
   have:cs=[]:=List.eq_nil_of_length_eq_zero (by simpa using h.1)
   subst this;simpa using h
 | cons v vs ih =>
   cases cs with
   | nil=>have:=h.1;simp at this
   | cons c cs=>cases n with
     | zero=>exact .nil
     | succ n=>exact .cons h.head (ih h.tail n)
theorem Zby.drop{vs:List V}{cs:List Value}(h:Zby P E vs cs)(n:Nat):Zby P E (vs.drop n) (cs.drop n):=by
 induction n generalizing vs cs with
 | zero=>simpa using h
 | succ n ih =>
   cases vs with
   | nil =>
     have:cs=[]:=List.eq_nil_of_length_eq_zero (by simpa using h.1)
     subst this;simpa using h
   | cons v vs=>cases cs with
     | nil=>have:=h.1;simp at this
     | cons c cs=>simpa using ih h.tail
theorem Zby.mono{E':Env}(hx:Ext E E' []){vs:List V}{cs:List Value}(h:Zby P E vs cs):Zby P E' vs cs:=⟨h.1,fun j hj=>(h.2 j hj).mono hx⟩
theorem ZdS:∀ {t:Ty} {x:t.den} {cs:List Value},ZbD E.w E.S t x cs→Zby P E (flat t x) cs
 | .int _,_,_,h=>by have h':=h;rw[show _=_ from h] at h' ⊢;exact .cons (.d h') .nil
 | .bool,_,_,h=>by have h':=h;rw[show _=_ from h] at h' ⊢;exact .cons (.d h') .nil
 | .str,_,_,h=>by have h':=h;rw[show _=_ from h] at h' ⊢;exact .cons (.d h') .nil
 | .sl _,_,_,h=>by
   have h':=h
   obtain⟨a,c,rfl,_⟩:=h
   exact .cons (.d h') .nil
 | .pair _ _,_,_,⟨c1,c2,h,h1,h2⟩=>by rw[h];exact (ZdS h1).append (ZdS h2)
 | .unit,_,_,h=>by rw[show _=_ from h];exact .nil
theorem Zby.single{v:V}{cs:List Value}(r:Zby P E [v] cs):∃ c,cs=[c]∧Rep P E v c:=by
 match cs,r with
 | [],r=>have:=r.1;simp at this
 | [c],r=>exact⟨c,rfl,r.head⟩
 | _::_::_,r=>have:=r.1;simp at this
theorem ZlF{a b:IntKind}(h:Zxi a b=true):a=b:=by cases a<;>cases b<;>first | rfl | cases h
theorem Zcg:∀ {t:Ty} {vs:List V} {x:t.den} {cs:List Value},Zmm t vs=some x→Zby P E vs cs→ZbD E.w E.S t x cs
 | .int k,vs,x,cs,h,r=>by
   simp only[Zmm,ZpR] at h
   split at h
   ·split at h
    ·rename_i hk
     cases h
     rw[← ZlF hk]
     obtain⟨c,rfl,h'⟩:=r.single
     rw[h'.int_inv]
     rfl
    ·cases h
   ·cases h
 | .bool,vs,x,cs,h,r=>by
   simp only[Zmm,ZvJ] at h
   split at h
   ·cases h
    obtain⟨c,rfl,h'⟩:=r.single
    rw[h'.bool_inv]
    rfl
   ·cases h
 | .str,vs,x,cs,h,r=>by
   simp only[Zmm,Zu1] at h
   split at h
   ·cases h
    obtain⟨c,rfl,h'⟩:=r.single
    rw[h'.str_inv]
    rfl
   ·cases h
 | .sl t,vs,x,cs,h,r=>by
   simp only[Zmm,ZwO] at h
   split at h
   ·obtain⟨c,rfl,h'⟩:=r.single
    exact Zo0 h h'
   ·cases h
 | .pair a b,vs,x,cs,h,r=>by
   simp only[Zmm] at h
   split at h
   ·rename_i p hp
    split at h
    ·rename_i q hq
     cases h
     exact⟨cs.take a.size,cs.drop a.size,(List.take_append_drop _ _).symm,Zcg hp (r.take _),Zcg hq (r.drop _)⟩
    ·cases h
   ·cases h
 | .unit,vs,x,cs,h,r=>by
   simp only[Zmm,ZwG] at h
   split at h
   ·exact List.eq_nil_of_length_eq_zero (by simpa using r.1)
   ·cases h
theorem Zft(c:Value):Rep P E (ZoO c) c:=by
 unfold ZoO
 split
 ·exact .mk_int _ _
 ·exact .mk_bool _
 ·exact .mk_str _
 ·exact .nils _
 ·exact .nilp
 ·exact .nilf
 ·exact .nilm
 ·rename_i vs
  split
  ·rename_i h
   exact .tup (by simpa using congrArg List.length h) (fun j hj=>absurd hj (by simp))
  ·exact .any _
 ·exact .any _
theorem Zfv(vs:List Value):Zby P E (ZmE vs) vs:=by
 induction vs with
 | nil=>exact .nil
 | cons v vs ih=>exact .cons (Zft v) ih
theorem ZeL:∀ {v:V} {c:Value},v.solid=true→Rep P E v c→c.oneCell'=true
 | .any,_,h,_=>by simp[V.solid] at h
 | .when ..,_,h,_=>by simp[V.solid] at h
 | .tup _,_,h,_=>by simp[V.solid] at h
 | .agg _,_,h,_=>by simp[V.solid] at h
 | .opt b v,c,h,r=>by
   cases r with
   | opt h1 h2 =>
     cases b with
     | true=>exact ZeL (by simpa[V.solid] using h) (h1 rfl)
     | false=>rw[h2 rfl];rfl
 | .d t x,c,_,r=>by cases r with | d h=>exact h.one c (by simp)
 | .nilp,c,_,r=>by cases r;rfl
 | .nilf,c,_,r=>by cases r;rfl
 | .nils,c,_,r=>by cases r;rfl
 | .nilm,c,_,r=>by cases r;rfl
 | .fn ..,c,_,r=>by cases r;rfl
 | .er _,c,_,r=>by cases r;rfl
 | .ref ..,c,_,r=>by cases r;rfl
 | .rref ..,c,_,r=>by cases r;rfl
 | .osl ..,c,_,r=>by cases r;rfl
 | .osp ..,c,_,r=>by cases r with | osp _ h=>obtain⟨a,h,_⟩:=h;rw[h];rfl
 | .map _,c,_,r=>by cases r;rfl
 | .pf ..,c,_,r=>by cases r with | pf h=>obtain⟨g,a,b,h,_⟩:=h;rw[h];rfl
 | .yl _,c,_,r=>by cases r;rfl
 | .bsl ..,c,_,r=>by cases r;rfl
theorem ZeP{c:Value}(h:c.oneCell'=true):c.cells=#[c]:=by
 cases c<;>simp[Value.oneCell'] at h<;>rfl
theorem ZhC:∀ {l:List V},Zid l=true→∀ v∈l,v.solid=true
 | [],_,v,h=>by simp at h
 | u::l,h,v,hv=>by
   unfold Zid at h
   split at h
   ·rename_i hu
    rcases List.mem_cons.1 hv with rfl | hv
    ·exact hu
    ·exact ZhC h v hv
   ·cases h
theorem Zez{v:V}{cs:List V}{c:Value}(h:v.scells=some cs)(r:Rep P E v c):Zby P E cs c.cells.toList∧∀ u∈c.cells.toList,u.oneCell'=true:=by
 unfold V.scells at h
 split at h
 ·split at h
  ·rename_i ds hs
   cases h
   cases r with
   | agg h1 h2 =>
     rename_i a
     have hr:Zby P E cs a.toList:=⟨by simpa using h1,fun j hj=>by simpa[Array.getD_eq_getD_getElem?,List.getD_eq_getElem?_getD] using h2 j hj⟩
     refine⟨hr,fun u hu=>?_⟩
     change u∈a.toList at hu
     obtain⟨j,hj,rfl⟩:=List.getElem_of_mem hu
     have hj':j < cs.length:=by rw[← hr.1];exact hj
     have:=hr.2 j hj'
     simp only[List.getD_eq_getElem?_getD,List.getElem?_eq_getElem hj,List.getElem?_eq_getElem hj',Option.getD_some] at this
     exact ZeL (ZhC hs _ (List.getElem_mem hj')) this
  ·cases h
 ·split at h
  ·rename_i hs
   cases h
   have h1:=ZeL hs r
   rw[ZeP h1]
   refine⟨.cons r .nil,fun u hu=>?_⟩
   simp at hu;subst hu;exact h1
  ·cases h
end inv
end
section
variable {P:Program}
theorem ZoP{f:V→V}(hf:f .any=.any)(t:Nat):∀ l:List (Nat×V),ZbE t (l.map fun p=>(p.1,f p.2))=f (ZbE t l)
 | []=>hf.symm
 | (u,v)::l=>by
   rw[List.map_cons,Zah,Zah]
   split
   ·rfl
   ·exact ZoP hf t l
theorem ZcS(f:V→V)(t:Nat)(l:List (Nat×V)):ZbE t (l.map fun p=>(p.1,p.2.subst f))=(ZbE t l).subst f:=ZoP (f:=V.subst f) rfl t l
theorem ZbS(f:V→V)(l:Nat):∀ objs:Zat,Zv l (substO f objs)=(Zv l objs).map (Obj.subst f)
 | []=>rfl
 | (k,o)::r=>by
   rw[substO,Zl,Zl]
   split
   ·rfl
   ·exact ZbS f l r
theorem Obj.has_subst{f:V→V}{o:Obj}{L:Loc}:(o.subst f).has L↔o.has L:=by cases o<;>exact Iff.rfl
theorem ZkW{f:V→V}{E:Env}{objs:Zat}{b:Nat}:ZdI E (substO f objs) b↔ZdI E objs b:=by
 constructor
 ·rintro⟨l,o,L,h1,h2,h3,h4⟩
  rw[ZbS,Option.map_eq_some_iff] at h1
  obtain⟨o',h5,rfl⟩:=h1
  exact⟨l,o',L,h5,h2,Obj.has_subst.1 h3,h4⟩
 ·rintro⟨l,o,L,h1,h2,h3,h4⟩
  exact⟨l,o.subst f,L,by rw[ZbS,h1];rfl,h2,Obj.has_subst.2 h3,h4⟩
theorem ZaM.keepS {E E' : Env} {L : Loc} {o : Obj} {f : V → V} (h : ZaM P E L o) (hr : ∀ v c, Rep P E v c → Rep P E' (v.subst f) c) (hS : ∀ b, E.S b → E'.S b ∧ E'.w.heap[b]? = E.w.heap[b]?)
 (hb:o.has L→E'.w.heap[L.b]?=E.w.heap[L.b]?):ZaM P E' L (o.subst f):=by
 cases o with
 | dead=>trivial
 | box cs =>
   obtain⟨vals,t,h2,h3,h4⟩:=h
   have len:(ZbR f cs).length=cs.length:=by rw[Zcc,List.length_map]
   exact⟨vals,t,by rw[hb trivial];exact h2,by rw[len];exact h3,fun j hj=>by rw[len] at hj;rw[ZbY hj];exact hr _ _ (h4 j hj)⟩
 | row t xs =>
   obtain⟨h1,h2,h3,e,cs,h4,h5⟩:=h
   refine⟨h1,h2,h3,e,cs,h4.mono hS,?_⟩
   rcases h5 with h5 | ⟨cur,h5,h6,h7,h8,h9⟩
   ·exact .inl h5
   ·exact .inr ⟨cur,h5,by rw[hb (by simp only[Obj.has];omega)];exact h6,h7,h8,h9⟩
 | vrow t xs s m =>
   obtain⟨h1,h2,h3,e,cs,h4,h5⟩:=h
   have len:(ZbR f s).length=s.length:=by rw[Zcc,List.length_map]
   refine⟨h1,by rw[len];exact h2,by rw[len];exact h3,e,cs,h4.mono hS,?_⟩
   rcases h5 with h5 | ⟨cur,h5,h6,h7,h8,h9,h10,h11,h12,h13⟩
   ·exact .inl h5
   ·exact .inr ⟨cur,h5,by rw[hb (by simp only[Obj.has];omega)];exact h6,h7,h8,h9,h10,h11,fun j hj=>by rw[len] at hj;rw[ZbY hj];exact hr _ _ (h12 j hj),by rw[len];exact h13⟩
 | smap t m=>obtain⟨es,c,h2,h3⟩:=h;exact⟨es,c,by rw[hb trivial];exact h2,h3.mono hS⟩
 | imap t m=>obtain⟨es,c,h2,h3⟩:=h;exact⟨es,c,by rw[hb trivial];exact h2,h3.mono hS⟩
 | lrec nt tmps ps a b st j =>
   obtain⟨r,h1,h2,h3,h4⟩:=h
   exact⟨r,by rw[hb trivial];exact h1,h2,fun t=>by rw[ZcS];exact hr _ _ (h3 t),h4⟩
 | dfb=>exact (hb trivial).trans h
theorem ZaM.keep{E E':Env}{L:Loc}{o:Obj}(h:ZaM P E L o)(hx:Ext E E' [])(hb:o.has L→E'.w.heap[L.b]?=E.w.heap[L.b]?):ZaM P E' L o:=by
 cases o with
 | dead=>trivial
 | box cs=>obtain⟨vals,t,h2,h3,h4⟩:=h;exact⟨vals,t,by rw[hb trivial];exact h2,h3,fun j hj=>(h4 j hj).mono hx⟩
 | row t xs =>
   obtain⟨h1,h2,h3,e,cs,h4,h5⟩:=h
   refine⟨h1,h2,h3,e,cs,h4.mono hx.S,?_⟩
   rcases h5 with h5 | ⟨cur,h5,h6,h7,h8,h9⟩
   ·exact .inl h5
   ·exact .inr ⟨cur,h5,by rw[hb (by simp only[Obj.has];omega)];exact h6,h7,h8,h9⟩
 | vrow t xs s m =>
   obtain⟨h1,h2,h3,e,cs,h4,h5⟩:=h
   refine⟨h1,h2,h3,e,cs,h4.mono hx.S,?_⟩
   rcases h5 with h5 | ⟨cur,h5,h6,h7,h8,h9,h10,h11,h12,h13⟩
   ·exact .inl h5
   ·exact .inr ⟨cur,h5,by rw[hb (by simp only[Obj.has];omega)];exact h6,h7,h8,h9,h10,h11,fun j hj=>(h12 j hj).mono hx,h13⟩
 | smap t m=>obtain⟨es,c,h2,h3⟩:=h;exact⟨es,c,by rw[hb trivial];exact h2,h3.mono hx.S⟩
 | imap t m=>obtain⟨es,c,h2,h3⟩:=h;exact⟨es,c,by rw[hb trivial];exact h2,h3.mono hx.S⟩
 | lrec nt tmps ps a b st j=>obtain⟨r,h1,h2,h3,h4⟩:=h;exact⟨r,by rw[hb trivial];exact h1,h2,fun t=>(h3 t).mono hx,h4⟩
 | dfb=>exact (hb trivial).trans h
def Env.setL(E:Env)(w:World)(l:Nat)(L:Loc):Env:=⟨w,E.S,fun j=>if j=l then some L else E.loc j⟩
theorem ZP(E:Env)(w:World)(l:Nat)(L:Loc):(E.setL w l L).loc l=some L:=if_pos rfl
theorem ZaB(E:Env)(w:World){l j:Nat}(L:Loc)(h:j≠l):(E.setL w l L).loc j=E.loc j:=if_neg h
theorem World.grownBy_refl'(w:World):w.grownBy w none:=⟨rfl,rfl,rfl,Nat.le_refl _,fun _ _ _=>rfl⟩
theorem Zgx{E:Env}{objs:Zat}(g:Z7 P E objs){w:World}{l:Nat}(L:Loc)(hf:E.loc l=none)(hw:E.w.grownBy w none):Ext E (E.setL w l L) [] :=
 ⟨fun b hb=>⟨hb,hw.block b (g.sl b hb) (by simp)⟩,fun j K _ hj=>by
  have hne:j≠l:=by rintro rfl;rw[hf] at hj;cases hj
  rw[ZaB _ _ _ hne];exact hj⟩
theorem ZaJ{k l:Nat}{o:Obj}{r:Zat}(h:Zv k ((l,o)::r)=none):k≠l∧Zv k r=none:=by
 rw[Zl] at h
 split at h
 ·cases h
 ·rename_i e;exact⟨fun e'=>e e'.symm,h⟩
theorem ZfO{k l:Nat}{o:Obj}{mv:Bool}{r:Zat}(h:Zv k (edit r (some (l,o,mv)))=none):k≠l∧Zv k r=none:=by
 cases mv with
 | false=>exact ZaJ h
 | true =>
   obtain⟨h1,h2⟩:=ZaJ h
   rw[ZbS] at h2
   exact⟨h1,by simpa using h2⟩
theorem Z7.push {E : Env} {objs : Zat} (g : Z7 P E objs) {w : World} {l : Nat} {L : Loc} {o : Obj} (hf : E.loc l = none) (hw : E.w.grownBy w none)
 (ho:ZaM P (E.setL w l L) L o) (hb:o.has L→E.w.heap.size≤L.b):Z7 P (E.setL w l L) ((l,o)::objs)∧ZcH E objs (E.setL w l L) ((l,o)::objs) []:=by
 have hx:=Zgx g L hf hw
 have hne:∀ {j p},Zv j objs=some p→j≠l:=by
  rintro j p h rfl
  obtain⟨K,hK,_⟩:=g.at_ _ _ h
  rw[hf] at hK;cases hK
 have hget:∀ j p,Zv j ((l,o)::objs)=some p→(j≠l∧Zv j objs=some p)∨(j=l∧p=o):=by
  intro j p h
  rw[Zl] at h
  split at h
  ·rename_i e;exact .inr ⟨e.symm,by cases h;rfl⟩
  ·rename_i e;exact .inl ⟨fun e'=>e e'.symm,h⟩
 have hown:∀ b,ZdI (E.setL w l L) ((l,o)::objs) b→ZdI E objs b∨E.w.heap.size≤b:=by
  rintro b ⟨j,p,K,h1,h2,h3,h4⟩
  rcases hget j p h1 with ⟨hn,h⟩ | ⟨rfl,rfl⟩
  ·rw[ZaB _ _ _ hn] at h2
   exact .inl ⟨j,p,K,h,h2,h3,h4⟩
  ·rw[ZP] at h2;cases h2
   exact .inr (h4▸hb h3)
 refine⟨⟨fun j p h=>?_,fun b h hs=>?_,fun b h=>Nat.lt_of_lt_of_le (g.sl b h) hw.size,g.tab.mono hx.S,fun i j p q K K' h1 h2 h3 h4 h5 h6 h7=>?_⟩,
  ⟨hx,hw.os,hw.tape,hw.output,hw.size,fun b h _=>hw.block b h (by simp),fun b h=>(hown b h).elim .inr .inl,fun b h=>.inl h,fun k h=>(ZaJ h).2,fun k h=>ZaB _ _ _ (ZaJ h).1⟩⟩
 ·rcases hget j p h with ⟨hn,h⟩ | ⟨rfl,rfl⟩
  ·obtain⟨K,hK,ha⟩:=g.at_ j p h
   exact⟨K,by rw[ZaB _ _ _ hn];exact hK,ha.keep hx (fun hh=>hw.block _ (ha.block_lt hh) (by simp))⟩
  ·exact⟨L,ZP _ _ _ _,ho⟩
 ·rcases hown b h with h | h
  ·exact g.ns b h hs
  ·have:=g.sl b hs;omega
 ·rcases hget i p h1 with ⟨hi,k1⟩ | ⟨rfl,rfl⟩<;>rcases hget j q h2 with ⟨hj,k2⟩ | ⟨rfl,rfl⟩
  ·rw[ZaB _ _ _ hi] at h3
   rw[ZaB _ _ _ hj] at h4
   exact g.inj i j p q K K' k1 k2 h3 h4 h5 h6 h7
  ·rw[ZaB _ _ _ hi] at h3
   rw[ZP] at h4;cases h4
   obtain⟨K0,hK0,ha⟩:=g.at_ i p k1
   rw[h3] at hK0;cases hK0
   have:=ha.block_lt h5
   have:=hb h6
   omega
  ·rw[ZaB _ _ _ hj] at h4
   rw[ZP] at h3;cases h3
   obtain⟨K0,hK0,ha⟩:=g.at_ j q k2
   rw[h4] at hK0;cases hK0
   have:=ha.block_lt h6
   have:=hb h5
   omega
  ·rfl
theorem Zf1 {E : Env} {objs : Zat} (g : Z7 P E objs) {w : World} {l : Nat} {L L' : Loc} {o : Obj} {row : Option Nat} {M : List Nat} (hl : Zv l objs = some o) (hL : E.loc l = some L)
 (hw:E.w.grownBy w row) (hrow:∀ b,row=some b→o.has L∧b=L.b) (hM:l∉M→L'=L):Ext E (E.setL w l L') M :=
 ⟨fun b hs=>⟨hs,hw.block b (g.sl b hs) (by
  intro e
  obtain⟨h1,h2⟩:=hrow b e.symm
  exact g.ns b ⟨l,o,L,hl,hL,h1,h2.symm⟩ hs)⟩,fun j K hj hK=>by
  by_cases hne:j=l
  ·subst hne
   rw[hL] at hK;cases hK
   rw[ZP,hM hj]
  ·rw[ZaB _ _ _ hne];exact hK⟩
theorem ZiF{E E':Env}{l:Nat}(hx:Ext E E' [l]){v:V}{c:Value}(r:Rep P E v c):Rep P E' (v.subst (Zhq l)) c:=by
 refine Zcq hx.S (fun v c hv r=>?_) r
 have loc:∀ {k L},E.loc k=some L→k≠l→E'.loc k=some L:=fun h hne=>hx.loc _ _ (by simpa using hne) h
 cases r<;>simp only[V.isRef,Bool.false_eq_true] at hv<;>simp only[Zhq,V.key]<;>split <;>
  first
  | exact .any _
  | (rename_i e;have hne:=Nat.ne_of_beq_eq_false e;have hl:=loc (by assumption) hne;first | exact .ref hl | exact .rref hl | exact .osl hl | exact .osp hl (by assumption) | exact .map hl | exact .yl hl | exact .bsl hl)
theorem Z7.put {E : Env} {objs : Zat} (g : Z7 P E objs) {w : World} {l : Nat} {L L' : Loc} {o o' : Obj} {row : Option Nat} {mv : Bool} (hl : Zv l objs = some o) (hL : E.loc l = some L)
 (hw:E.w.grownBy w row) (hrow:∀ b,row=some b→o.has L∧b=L.b) (hmv:mv=false→L'=L)
 (ho:ZaM P (E.setL w l L') L' o') (hb:o'.has L'→(o.has L∧L'.b=L.b)∨E.w.heap.size≤L'.b) :
 Z7 P (E.setL w l L') (edit objs (some (l,o',mv)))∧ZcH E objs (E.setL w l L') (edit objs (some (l,o',mv))) (moved (some (l,o',mv))):=by
 have hM:l∉moved (some (l,o',mv))→L'=L:=by
  cases mv with
  | false=>exact fun _=>hmv rfl
  | true=>intro h;simp[moved] at h
 have hx:=Zf1 g (M:=moved (some (l,o',mv))) hl hL hw hrow hM
 have hSne:∀ b,E.S b→some b≠row:=by
  intro b hs e
  obtain⟨h1,h2⟩:=hrow b e.symm
  exact g.ns b ⟨l,o,L,hl,hL,h1,h2.symm⟩ hs
 have hget : ∀ j p, Zv j (edit objs (some (l, o', mv))) = some p → (j ≠ l ∧ ∃ q, Zv j objs = some q ∧ (∀ K, p.has K ↔ q.has K) ∧
  ∀ K,ZaM P E K q→(q.has K→w.heap[K.b]?=E.w.heap[K.b]?)→ZaM P (E.setL w l L') K p)∨(j=l∧p=o'):=by
  intro j p h
  cases mv with
  | false =>
    have hx0:=Zf1 g (M:=[]) hl hL hw hrow (fun _=>hmv rfl)
    simp only[edit,Zl] at h
    split at h
    ·rename_i e;exact .inr ⟨e.symm,by cases h;rfl⟩
    ·rename_i e;exact .inl ⟨fun e'=>e e'.symm,p,h,fun _=>Iff.rfl,fun K ha hk=>ha.keep hx0 hk⟩
  | true =>
    simp only[edit,Zl] at h
    split at h
    ·rename_i e;exact .inr ⟨e.symm,by cases h;rfl⟩
    ·rename_i e
     rw[ZbS,Option.map_eq_some_iff] at h
     obtain⟨q,hq,rfl⟩:=h
     exact .inl ⟨fun e'=>e e'.symm,q,hq,fun _=>Obj.has_subst,fun K ha hk=>ha.keepS (fun v c r=>ZiF hx r) hx.S hk⟩
 have hown:∀ b,ZdI (E.setL w l L') (edit objs (some (l,o',mv))) b→ZdI E objs b∨E.w.heap.size≤b:=by
  rintro b ⟨j,p,K,h1,h2,h3,h4⟩
  rcases hget j p h1 with ⟨hn,q,hq,hh,_⟩ | ⟨rfl,rfl⟩
  ·rw[ZaB _ _ _ hn] at h2
   exact .inl ⟨j,q,K,hq,h2,(hh K).1 h3,h4⟩
  ·rw[ZP] at h2;cases h2
   rcases hb h3 with ⟨h5,h6⟩ | h5
   ·exact .inl ⟨j,o,L,hl,hL,h5,by rw[← h6,h4]⟩
   ·exact .inr (h4▸h5)
 refine⟨⟨fun j p h=>?_,fun b h hs=>?_,fun b h=>Nat.lt_of_lt_of_le (g.sl b h) hw.size,g.tab.mono hx.S,fun i j p q K K' h1 h2 h3 h4 h5 h6 h7=>?_⟩,
  ⟨hx,hw.os,hw.tape,hw.output,hw.size,fun b h hn=>hw.block b h (fun e=>?_),fun b h=>(hown b h).elim .inr .inl,fun b h=>.inl h,fun k h=>(ZfO h).2,fun k h=>ZaB _ _ _ (ZfO h).1⟩⟩
 ·rcases hget j p h with ⟨hn,q,hq,hh,hc⟩ | ⟨rfl,rfl⟩
  ·obtain⟨K,hK,ha⟩:=g.at_ j q hq
   refine⟨K,by rw[ZaB _ _ _ hn];exact hK,hc K ha (fun hhas=>hw.block _ (ha.block_lt hhas) (fun e=>hn ?_))⟩
   obtain⟨h6,h7⟩:=hrow _ e.symm
   exact g.inj j l q o K L hq hl hK hL hhas h6 h7
  ·exact⟨L',ZP _ _ _ _,ho⟩
 ·rcases hown b h with h | h
  ·exact g.ns b h hs
  ·have:=g.sl b hs;omega
 ·rcases hget i p h1 with ⟨hi,p',k1,hp,_⟩ | ⟨rfl,rfl⟩<;>rcases hget j q h2 with ⟨hj,q',k2,hq,_⟩ | ⟨rfl,rfl⟩
  ·rw[ZaB _ _ _ hi] at h3
   rw[ZaB _ _ _ hj] at h4
   exact g.inj i j p' q' K K' k1 k2 h3 h4 ((hp K).1 h5) ((hq K').1 h6) h7
  ·rw[ZaB _ _ _ hi] at h3
   rw[ZP] at h4;cases h4
   rcases hb h6 with ⟨h8,h9⟩ | h8
   ·exact g.inj i j p' o K L k1 hl h3 hL ((hp K).1 h5) h8 (h7.trans h9)
   ·obtain⟨K0,hK0,ha⟩:=g.at_ i p' k1
    rw[h3] at hK0;cases hK0
    have:=ha.block_lt ((hp K).1 h5);omega
  ·rw[ZaB _ _ _ hj] at h4
   rw[ZP] at h3;cases h3
   rcases hb h5 with ⟨h8,h9⟩ | h8
   ·exact g.inj i j o q' L K' hl k2 hL h4 h8 ((hq K').1 h6) (h9.symm.trans h7)
   ·obtain⟨K0,hK0,ha⟩:=g.at_ j q' k2
    rw[h4] at hK0;cases hK0
    have:=ha.block_lt ((hq K').1 h6);omega
  ·rfl
 ·obtain⟨h6,h7⟩:=hrow b e.symm
  exact hn ⟨l,o,L,hl,hL,h6,h7.symm⟩
def Env.still(E:Env)(b:Nat)(has:Prop):Env:=⟨E.w,fun k=>E.S k∨(has∧k=b),E.loc⟩
theorem Z7.still {E : Env} {objs : Zat} (g : Z7 P E objs) {l : Nat} {o : Obj} {L : Loc} (hl : Zv l objs = some o) (hL : E.loc l = some L) :
 Z7 P (E.still L.b (o.has L)) ((l,.dead)::objs)∧ZcH E objs (E.still L.b (o.has L)) ((l,.dead)::objs) []:=by
 have hx:Ext E (E.still L.b (o.has L)) []:=⟨fun b hs=>⟨.inl hs,rfl⟩,fun j K _ hK=>hK⟩
 have hget:∀ j p,Zv j ((l,Obj.dead)::objs)=some p→(j≠l∧Zv j objs=some p)∨(j=l∧p=.dead):=by
  intro j p h
  rw[Zl] at h
  split at h
  ·rename_i e;exact .inr ⟨e.symm,by cases h;rfl⟩
  ·rename_i e;exact .inl ⟨fun e'=>e e'.symm,h⟩
 have hown:∀ b,ZdI (E.still L.b (o.has L)) ((l,.dead)::objs) b→∃ j p K,j≠l∧Zv j objs=some p∧E.loc j=some K∧p.has K∧K.b=b:=by
  rintro b ⟨j,p,K,h1,h2,h3,h4⟩
  rcases hget j p h1 with ⟨hne,h⟩ | ⟨rfl,rfl⟩
  ·exact⟨j,p,K,hne,h,h2,h3,h4⟩
  ·exact h3.elim
 refine⟨⟨fun j p h=>?_,fun b h hs=>?_,?_,g.tab.mono hx.S,fun i j p q K K' h1 h2 h3 h4 h5 h6 h7=>?_⟩,⟨hx,rfl,rfl,rfl,Nat.le_refl _,fun _ _ _=>rfl,fun b h=>?_,fun b h=>?_,fun k h=>(ZaJ h).2,fun _ _=>rfl⟩⟩
 ·rcases hget j p h with ⟨hne,h⟩ | ⟨rfl,rfl⟩
  ·obtain⟨K,hK,ha⟩:=g.at_ j p h
   exact⟨K,hK,ha.keep hx (fun _=>rfl)⟩
  ·exact⟨L,hL,trivial⟩
 ·obtain⟨j,p,K,hne,h1,h2,h3,h4⟩:=hown b h
  rcases hs with hs | ⟨hh,e⟩
  ·exact g.ns b ⟨j,p,K,h1,h2,h3,h4⟩ hs
  ·exact hne (g.inj j l p o K L h1 hl h2 hL h3 hh (h4.trans e))
 ·rintro b (hs | ⟨hh,rfl⟩)
  ·exact g.sl b hs
  ·exact g.own_lt ⟨l,o,L,hl,hL,hh,rfl⟩
 ·rcases hget i p h1 with ⟨hi,h1⟩ | ⟨rfl,rfl⟩
  ·rcases hget j q h2 with ⟨hj,h2⟩ | ⟨rfl,rfl⟩
   ·exact g.inj i j p q K K' h1 h2 h3 h4 h5 h6 h7
   ·exact h6.elim
  ·exact h5.elim
 ·obtain⟨j,p,K,hne,h1,h2,h3,h4⟩:=hown b h
  exact .inr ⟨j,p,K,h1,h2,h3,h4⟩
 ·rcases h with h | ⟨hh,e⟩
  ·exact .inl h
  ·exact .inr (.inr ⟨l,o,L,hl,hL,hh,e.symm⟩)
theorem Z7.grow{E:Env}{objs:Zat}(g:Z7 P E objs){w:World}{S:Nat→Prop}(h:ZhY E.w E.S w S):Z7 P ⟨w,S,E.loc⟩ objs∧ZcH E objs ⟨w,S,E.loc⟩ objs []:=by
 have hx:Ext E ⟨w,S,E.loc⟩ []:=⟨fun b hs=>⟨h.up b hs,h.frame b (g.sl b hs)⟩,fun _ _ _ hK=>hK⟩
 refine⟨⟨fun j p hj=>?_,fun b ho hs=>?_,h.lt,g.tab.mono hx.S,g.inj⟩,⟨hx,h.os,h.tape,h.output,h.size,fun b hb _=>h.frame b hb,fun b hb=>.inr hb,fun b hb=>(h.st b hb).imp_right .inl,fun _ h=>h,fun _ _=>rfl⟩⟩
 ·obtain⟨K,hK,ha⟩:=g.at_ j p hj
  exact⟨K,hK,ha.keep hx (fun hh=>h.frame _ (ha.block_lt hh))⟩
 ·have hlt:=g.own_lt (b:=b) ho
  rcases h.st b hs with hs | hs
  ·exact g.ns b ho hs
  ·omega
def Env.at(E:Env)(w:World):Env:={ E with w:=w }
theorem Z7.at {E : Env} {objs : Zat} (g : Z7 P E objs) {w : World} (h : w.heap = E.w.heap) (h0 : E.w.drawn ≤ w.drawn) (h1 : w.os = E.w.os) (h2 : w.tape = E.w.tape) (h3 : w.output = E.w.output) :
 Z7 P (E.at w) objs∧ZcH E objs (E.at w) objs [] :=
 g.grow (w:=w) (S:=E.S) ⟨h0,h1,h2,h3,by rw[h];exact Nat.le_refl _,fun b _=>by rw[h],fun _ h=>h,fun _ h=>.inl h,fun b hb=>by rw[h];exact g.sl b hb⟩
theorem Z7.adopt {E : Env} {objs : Zat} (g : Z7 P E objs) {n : Nat} {K : Loc} {o : Obj} (hf : E.loc n = none) (ho : ZaM P (E.setL E.w n K) K o) (hb : o.has K → ¬ E.S K.b ∧ ¬ ZdI E objs K.b) :
 Z7 P (E.setL E.w n K) ((n,o)::objs)∧∀ (E0:Env) (imp:Zat) (M:List Nat),ZcH E0 imp E objs M→(o.has K→E0.w.heap.size≤K.b∨ZdI E0 imp K.b)→ZcH E0 imp (E.setL E.w n K) ((n,o)::objs) M:=by
 have hx:=Zgx g K hf (World.grownBy_refl' E.w)
 have hne:∀ {j p},Zv j objs=some p→j≠n:=by
  rintro j p h rfl
  obtain⟨L,hL,_⟩:=g.at_ _ _ h
  rw[hf] at hL;cases hL
 have hget:∀ j p,Zv j ((n,o)::objs)=some p→(j≠n∧Zv j objs=some p)∨(j=n∧p=o):=by
  intro j p h
  rw[Zl] at h
  split at h
  ·rename_i e;exact .inr ⟨e.symm,by cases h;rfl⟩
  ·rename_i e;exact .inl ⟨fun e'=>e e'.symm,h⟩
 have hown:∀ b,ZdI (E.setL E.w n K) ((n,o)::objs) b→ZdI E objs b∨(o.has K∧b=K.b):=by
  rintro b ⟨j,p,L,h1,h2,h3,h4⟩
  rcases hget j p h1 with ⟨hn,h⟩ | ⟨rfl,rfl⟩
  ·rw[ZaB _ _ _ hn] at h2
   exact .inl ⟨j,p,L,h,h2,h3,h4⟩
  ·rw[ZP] at h2;cases h2
   exact .inr ⟨h3,h4.symm⟩
 refine⟨⟨fun j p h=>?_,fun b h hs=>?_,g.sl,g.tab,fun i j p q L L' h1 h2 h3 h4 h5 h6 h7=>?_⟩,fun E0 imp M st hk =>
  ⟨⟨st.ext.S,fun l L hl hL=>?_⟩,st.os,st.tape,st.output,st.size,st.frame,fun b h=>(hown b h).elim (st.own b) (fun ⟨h1,h2⟩=>h2▸hk h1),st.st,fun l h=>st.keys l (ZaJ h).2,fun l h=>(ZaB _ _ _ (ZaJ h).1).trans (st.dom l (ZaJ h).2)⟩⟩
 ·rcases hget j p h with ⟨hn,h⟩ | ⟨rfl,rfl⟩
  ·obtain⟨L,hL,ha⟩:=g.at_ j p h
   exact⟨L,by rw[ZaB _ _ _ hn];exact hL,ha.keep hx (fun _=>rfl)⟩
  ·exact⟨K,ZP _ _ _ _,ho⟩
 ·rcases hown b h with h' | ⟨hh,e⟩
  ·exact g.ns b h' hs
  ·exact (hb hh).1 (e▸hs)
 ·rcases hget i p h1 with ⟨hi,k1⟩ | ⟨rfl,rfl⟩<;>rcases hget j q h2 with ⟨hj,k2⟩ | ⟨rfl,rfl⟩
  ·rw[ZaB _ _ _ hi] at h3
   rw[ZaB _ _ _ hj] at h4
   exact g.inj i j p q L L' k1 k2 h3 h4 h5 h6 h7
  ·rw[ZaB _ _ _ hi] at h3
   rw[ZP] at h4;cases h4
   exact absurd ⟨i,p,L,k1,h3,h5,h7⟩ (hb h6).2
  ·rw[ZaB _ _ _ hj] at h4
   rw[ZP] at h3;cases h3
   exact absurd ⟨j,q,L',k2,h4,h6,h7.symm⟩ (hb h5).2
  ·rfl
 ·by_cases e:l=n
  ·subst e
   have:=st.ext.loc l L hl hL
   rw[hf] at this;cases this
  ·rw[ZaB _ _ _ e];exact st.ext.loc l L hl hL
theorem Z7.remake {E : Env} {objs : Zat} (g : Z7 P E objs) {w : World} {l n : Nat} {L K : Loc} {o o' : Obj} {row : Option Nat} (hl : Zv l objs = some o) (hL : E.loc l = some L) (hf : E.loc n = none)
 (hw:E.w.grownBy w row) (hrow:∀ b,row=some b→o.has L∧b=L.b) (ho:∀ lo,ZaM P ⟨w,E.S,lo⟩ K o') (hb:o'.has K→(o.has L∧K.b=L.b)∨E.w.heap.size≤K.b) :
 ∃ E',E'.w=w∧E'.loc n=some K∧Z7 P E' ((n,o')::(l,.dead)::objs)∧ZcH E objs E' ((n,o')::(l,.dead)::objs) []:=by
 have hp:=Z7.put g (mv:=false) (o':=.dead) (L':=L) hl hL hw hrow (fun _=>rfl) trivial (fun h=>h.elim)
 simp only[edit,moved] at hp
 have hnl:n≠l:=fun e=>by subst e;rw[hf] at hL;cases hL
 have hb1:o'.has K→¬ (E.setL w l L).S K.b∧¬ ZdI (E.setL w l L) ((l,.dead)::objs) K.b:=fun hk=>by
  have hnd:∀ b,ZdI (E.setL w l L) ((l,.dead)::objs) b→∃ j p M,j≠l∧Zv j objs=some p∧E.loc j=some M∧p.has M∧M.b=b:=by
   rintro b ⟨j,p,M,h1,h2,h3,h4⟩
   rw[Zl] at h1
   split at h1
   ·cases h1;exact h3.elim
   ·rename_i e
    rw[ZaB _ _ _ (Ne.symm e)] at h2
    exact⟨j,p,M,Ne.symm e,h1,h2,h3,h4⟩
  rcases hb hk with ⟨h1,h2⟩ | h1
  ·refine⟨fun hs=>g.ns K.b ⟨l,o,L,hl,hL,h1,h2.symm⟩ hs,fun ho=>?_⟩
   obtain⟨j,p,M,k1,k2,k3,k4,k5⟩:=hnd _ ho
   exact k1 (g.inj j l p o M L k2 hl k3 hL k4 h1 (k5.trans h2))
  ·refine⟨fun hs=>by have h2:=g.sl _ hs;omega,fun ho=>?_⟩
   obtain⟨j,p,M,k1,k2,k3,k4,k5⟩:=hnd _ ho
   have:=g.own_lt ⟨j,p,M,k2,k3,k4,k5⟩
   omega
 have ha:=Z7.adopt hp.1 (n:=n) (K:=K) (o:=o') (by rw[ZaB _ _ _ hnl];exact hf) (ho _) hb1
 refine⟨_,rfl,ZP _ _ _ _,ha.1,ha.2 E objs [] hp.2 (fun hk=>?_)⟩
 rcases hb hk with ⟨h1,h2⟩ | h1
 ·exact .inr ⟨l,o,L,hl,hL,h1,h2.symm⟩
 ·exact .inl h1
end
section
def ZdH(P:Program)(s:Sem Value)(E:Env)(objs:Zat)(out:Out):Prop :=
 ∃ E' v,s.run P E.w=.ok v E'.w∧Z7 P E' (edit objs out.ed)∧ZcH E objs E' (edit objs out.ed) (moved out.ed)∧Rep P E' out.v v
def ZxY(P:Program)(s:Sem Unit)(E:Env)(objs:Zat)(out:Out):Prop :=
 ∃ E',s.run P E.w=.ok () E'.w∧Z7 P E' (edit objs out.ed)∧ZcH E objs E' (edit objs out.ed) (moved out.ed)
def Sub(os objs:Zat):Prop:=∀ l o,Zv l os=some o→Zv l objs=some o
theorem Z7.get{P:Program}{E:Env}{os objs:Zat}(g:Z7 P E objs)(hs:Sub os objs){l:Nat}{o:Obj}(h:Zv l os=some o):∃ L,E.loc l=some L∧Zv l objs=some o∧ZaM P E L o:=by
 obtain⟨L,h1,h2⟩:=g.at_ l o (hs l o h)
 exact⟨L,h1,hs l o h,h2⟩
variable {P:Program} {τ:Zar} {E:Env} {os objs:Zat} {n:Nat}
theorem ZdH.same{s:Sem Value}{v:Value}{a:V}{p:Option Prop}(g:Z7 P E objs)(h:s.run P E.w=.ok v E.w)(r:Rep P E a v):ZdH P s E objs ⟨p,a,none⟩ :=
 ⟨E,v,h,g,.refl _ _ _,r⟩
theorem ZpL{t:TypeId}{i:TypeInfo}(h:P.info? t=some i)(w:World):(typeInfo t).run P w=.ok i w:=by simp[typeInfo,h]
theorem ZbN{t:TypeId}{i:TypeInfo}(h:P.info? t=some i)(w:World):(sizeOf t).run P w=.ok i.size w:=by simp[sizeOf,ZpL h]
theorem ZdW{t:TypeId}{i:TypeInfo}{z:Value}(h:P.info? t=some i)(hz:i.zero=some z)(w:World):(zeroValue t).run P w=.ok z w:=by simp[zeroValue,ZpL h,hz]
def ZsK:TypeDesc→Bool
 | .struct _ | .array _ _=>true
 | _=>false
theorem TI.Ok.desc{t:TypeId}{i:TI}(h:i.Ok P t):i.k.known=true→∃ d,P.underlying t=some d∧ZsK d=i.isAgg:=by
 have hk:=h.kind
 obtain⟨k,size,bytes,zero,code⟩:=i
 cases k<;>simp only[TI.isAgg] at hk ⊢
 case int k=>exact fun _=>⟨_,hk,rfl⟩
 case bool=>exact fun _=>⟨_,hk,rfl⟩
 case str=>exact fun _=>⟨_,hk,rfl⟩
 case sl=>exact fun _=>⟨_,hk,rfl⟩
 case arr=>exact fun _=>⟨_,hk.1,rfl⟩
 case st=>obtain⟨fs,h1,_⟩:=hk;exact fun _=>⟨_,h1,rfl⟩
 case ptr=>obtain⟨e,h1⟩:=hk;exact fun _=>⟨_,h1,rfl⟩
 case map=>exact fun _=>⟨_,hk.1,rfl⟩
 case fn=>obtain⟨_,_,_,h1⟩:=hk;exact fun _=>⟨_,h1,rfl⟩
 case other=>intro h;cases h
theorem Ziu{t:TypeId}{d:TypeDesc}(h:P.underlying t=some d)(w:World):(isAgg t).run P w=.ok (ZsK d) w:=by
 simp only[isAgg,Sem.run_bind,run_underlying h,Result.andThen_ok]
 cases d<;>rfl
theorem Zjp {t : TypeId} {ti : TI} (ht : ti.Ok P t) (hk : ti.k.known = true) (w : World) (b off : Nat) (cs : List Value) (hl : cs.length = ti.size)
 (h:∀ j u,cs[j]?=some u→w.cell? ⟨b,off+j,none⟩=some u) (ho:ti.isAgg=true∨cs.length=1) :
 (loadVar t ⟨b,off,none⟩).run P w=.ok (if ti.isAgg then .agg cs.toArray else cs.getD 0 undef) w:=by
 obtain⟨d,hd,ha⟩:=ht.desc hk
 obtain⟨info,z,hi,hs,_⟩:=ht.info
 have hcells:=run_loadCells_list (P:=P) w ⟨b,off,none⟩ cs (fun j v hj=>by rw[Addr.add_lit];exact h j v hj)
 cases hb:ti.isAgg with
 | true =>
   rw[hb] at ha
   simp[loadVar,Ziu hd,ha,ZbN hi,hs,← hl,hcells]
 | false =>
   rw[hb] at ha ho
   have h1:cs.length=1:=ho.resolve_left (by simp)
   obtain⟨c,rfl⟩:=List.length_eq_one_iff.1 h1
   have:=h 0 c (by simp)
   simp only[Nat.add_zero] at this
   simp[loadVar,Sem.run_bind,Ziu hd,ha,Result.andThen_ok,this]
theorem ZiV {agg : Bool} {cs : List V} {v : V} {vals : List Value} (h : Zfb agg cs = some v) (r : Zby P E cs vals) :
 Rep P E v (if agg then .agg vals.toArray else vals.getD 0 undef)∧(agg=true∨vals.length=1):=by
 unfold Zfb at h
 cases agg with
 | true =>
   simp only[if_true,Option.some.injEq] at h ⊢
   subst h
   exact⟨.agg (by simpa using r.1) (fun j hj=>by simpa using r.2 j hj),.inl trivial⟩
 | false =>
   simp only[Bool.false_eq_true,if_false] at h ⊢
   split at h
   ·cases h
    exact⟨by simpa using r.2 0 (by simp),.inr (by simpa using r.1)⟩
   ·cases h
theorem Zfd:∀ {n:Nat} {l cs:List V},ZlN n l=some cs→cs=l.take n∧cs.length=n
 | 0,l,cs,h=>by simp only[ZlN] at h;cases h;exact⟨by simp,rfl⟩
 | n+1,v::l,cs,h=>by
   simp only[ZlN] at h
   split at h
   ·rename_i r hr
    cases h
    obtain⟨h1,h2⟩:=Zfd hr
    exact⟨by rw[List.take_succ_cons,← h1],by rw[List.length_cons,h2]⟩
   ·cases h
 | n+1,[],cs,h=>by simp[ZlN] at h
theorem Zex:∀ (n:Nat) (l:List V),Zip n l=l.drop n
 | 0,l=>by simp[Zip]
 | n+1,_::l=>by rw[Zip,Zex n l,List.drop_succ_cons]
 | n+1,[]=>by simp[Zip]
theorem ZcZ{w:World}{b:Nat}{vals:Array Value}{t:TypeId}{fr:Nat×Nat}(h:w.heap[b]?=some (.cells vals t fr))(o:Nat):w.cell? ⟨b,o,none⟩=vals[o]?:=by
 simp[World.cell?,h]
theorem Zby.at_cells {w : World} {b : Nat} {vals : Array Value} {t : TypeId} {fr : Nat × Nat} {cs : List V} (h : w.heap[b]? = some (.cells vals t fr)) (r : Zby P E cs vals.toList) (off n : Nat) :
 Zby P E ((cs.drop off).take n) ((vals.toList.drop off).take n)∧∀ j u,((vals.toList.drop off).take n)[j]?=some u→w.cell? ⟨b,off+j,none⟩=some u:=by
 refine⟨(r.drop off).take n,fun j u hj=>?_⟩
 rw[ZcZ h]
 rw[List.getElem?_take] at hj
 split at hj
 ·simpa using hj
 ·cases hj
theorem Zls{L:Loc}{cs:List V}(h:ZaM P E L (.box cs)):∃ vals t,E.w.heap[L.b]?=some (.cells vals t (0,0))∧Zby P E cs vals.toList:=by
 obtain⟨vals,t,h1,h2,h3⟩:=h
 exact⟨vals,t,h1,by simpa using h2,fun j hj=>by simpa[Array.getD_eq_getD_getElem?,List.getD_eq_getElem?_getD] using h3 j hj⟩
theorem Zpv {L : Loc} {T : Ty} {xs : List T.den} (h : ZaM P E L (.row T xs)) {i : Nat} (hi : i < xs.length) :
 ∃ cs,ZbD E.w E.S T (xs.getD i T.dflt) cs∧∀ j u,cs[j]?=some u→E.w.cell? ⟨L.b,i*T.size+j,none⟩=some u:=by
 obtain⟨_,_,_,e,cs,h1,h2⟩:=h
 obtain⟨c,hc,hj⟩:=h1.get i xs[i] (List.getElem?_eq_getElem hi)
 rcases h2 with ⟨_,rfl⟩ | ⟨cur,_,h3,_,_,_,_,h4⟩
 ·simp at hi
 ·refine⟨c,by rw[List.getD_eq_getElem?_getD,List.getElem?_eq_getElem hi];exact hc,fun j u hu=>?_⟩
  rw[ZcZ h3]
  have:=hj j u hu
  rw[← h4,List.getElem?_take] at this
  split at this
  ·simpa using this
  ·cases this
theorem ZlV {t : TypeId} {ti : TI} (ht : ti.Ok P t) (hk : ti.k.known = true) (g : Z7 P E objs) {b off : Nat} {cs : List V} {vals : List Value} {a : V} {p : Option Prop} (r : Zby P E cs vals)
 (h:∀ j u,vals[j]?=some u→E.w.cell? ⟨b,off+j,none⟩=some u) (hl:cs.length=ti.size) (ha:Zfb ti.isAgg cs=some a) :
 ZdH P (Instr.loadAt t (.pointer (some ⟨b,off,none⟩))) E objs ⟨p,a,none⟩:=by
 obtain⟨r1,r2⟩:=ZiV ha r
 have:=Zjp ht hk E.w b off vals (r.1.trans hl) h r2
 refine .same g (v:=if ti.isAgg then .agg vals.toArray else vals.getD 0 undef) ?_ (by split<;>simp_all)
 simp only[Instr.loadAt,Instr.sureAddr,Sem.run_bind,Sem.run_pure,Result.andThen_ok,this]
theorem Zhk{l off:Nat}{c:Value}(r:Rep P E (.ref l off) c):∃ L,E.loc l=some L∧c=.pointer (some ⟨L.b,off,none⟩):=by cases r with | ref h=>exact⟨_,h,rfl⟩
theorem ZfC{l i off:Nat}{c:Value}(r:Rep P E (.rref l i off) c):∃ L,E.loc l=some L∧c=.pointer (some ⟨L.b,i*L.esz+off,none⟩):=by cases r with | rref h=>exact⟨_,h,rfl⟩
theorem Zcf{l:Nat}{c:Value}(r:Rep P E (.osl l) c):∃ L,E.loc l=some L∧c=L.v:=by cases r with | osl h=>exact⟨_,h,rfl⟩
theorem Zdu{l lo n:Nat}{c:Value}(r:Rep P E (.osp l lo n) c):∃ L,E.loc l=some L∧L.Part lo n c:=by cases r with | osp h hp=>exact⟨_,h,hp⟩
theorem ZrQ{l:Nat}{c:Value}(r:Rep P E (.map l) c):∃ L,E.loc l=some L∧c=.map (some L.b):=by cases r with | map h=>exact⟨_,h,rfl⟩
theorem Zrr{l n:Nat}{c:Value}(r:Rep P E (.bsl l n) c):∃ L,E.loc l=some L∧c=.slice (some ⟨L.b,0,none⟩) n n:=by cases r with | bsl h=>exact⟨_,h,rfl⟩
theorem Zmv{cs:List V}{c:Value}(r:Rep P E (.er cs) c):∃ b off vals,c=.pointer (some ⟨b,off,none⟩)∧E.S b∧Zby P E cs vals∧∀ j u,vals[j]?=some u→E.w.cell? ⟨b,off+j,none⟩=some u:=by
 cases r with
 | er f h1 h2 h3 =>
   rename_i b off
   refine⟨b,off,(List.range cs.length).map f,rfl,h1,⟨by simp,fun j hj=>?_⟩,fun j u hj=>?_⟩
   ·rw[List.getD_eq_getElem?_getD (l:=List.map f _),List.getElem?_map,List.getElem?_range hj];exact h3 j hj
   ·rw[List.getElem?_map] at hj
    rcases Nat.lt_or_ge j cs.length with hl | hl
    ·rw[List.getElem?_range hl] at hj;simp at hj;subst hj;exact h2 j hl
    ·rw[List.getElem?_eq_none (by simpa using hl)] at hj;simp at hj
theorem Zte{L:Loc}{T:Ty}{xs:List (List T.den)}{v:V}{m:Nat}(h:ZaM P E L (.vrow T xs [v] m)):∃ u,Rep P E v u∧E.w.cell? ⟨L.b,xs.length+0,none⟩=some u:=by
 obtain⟨h1,h2,h3,e,cs,h4,h5 | ⟨cur,h5,h6,h7,h8,h9,h10,h11,h12,h13⟩⟩:=h
 ·have:=h5.2;simp at h3;omega
 ·refine⟨_,h12 0 (by simp),?_⟩
  rw[ZcZ h6,Array.getD_eq_getD_getElem?,Array.getElem?_eq_getElem (by simp at h3;omega)]
  rfl
theorem Zqs (hτ : Zbs P τ) {t : TypeId} {v : V} {out : Out} (h : Zn5 τ os t v = some out) (hs : Sub os objs) (ho : okP out.ob) (g : Z7 P E objs) {c : Value} (r : Rep P E v c) :
 ZdH P (Instr.loadAt t c) E objs out:=by
 unfold Zn5 at h
 split at h
 ·cases h
 ·rename_i ti hti
  have ht:=hτ t ti hti
  split at h
  ·cases h
  ·rename_i hk
   split at h
   ·
    split at h
    ·rename_i cs hcs
     split at h
     ·rename_i ds h1
      split at h
      ·rename_i a h2
       cases h
       obtain⟨rfl,h3⟩:=Zfd h1
       obtain⟨L,hL,_,hat⟩:=g.get hs hcs
       obtain⟨K,hK,rfl⟩:=Zhk r
       rw[hL] at hK;cases hK
       obtain⟨vals,t',h4,h5⟩:=Zls hat
       rw[Zex] at h2 h3
       obtain⟨h6,h7⟩:=h5.at_cells h4 _ _
       exact ZlV ht hk g h6 h7 h3 h2
      ·cases h
     ·cases h
    ·cases h
   ·rename_i cs
    split at h
    ·rename_i ds h1
     split at h
     ·rename_i a h2
      cases h
      obtain⟨rfl,h3⟩:=Zfd h1
      obtain⟨b,off,vals,rfl,_,h4,h5⟩:=Zmv r
      refine ZlV ht hk g (h4.take _) (fun j u hj=>?_) h3 h2
      rw[List.getElem?_take] at hj
      split at hj
      ·exact h5 j u hj
      ·cases hj
     ·cases h
    ·cases h
   ·rename_i l i off
    split at h
    ·rename_i T xs hcs
     split at h
     ·rename_i ds h1
      split at h
      ·rename_i a h2
       cases h
       obtain⟨rfl,h3⟩:=Zfd h1
       obtain⟨L,hL,_,hat⟩:=g.get hs hcs
       obtain⟨K,hK,rfl⟩:=ZfC r
       rw[hL] at hK;cases hK
       obtain⟨cs,h4,h5⟩:=Zpv hat (show i < xs.length from ho)
       rw[hat.1]
       rw[Zex] at h2 h3
       refine ZlV ht hk g (((ZdS h4).drop off).take _) (fun j u hj=>?_) h3 h2
       rw[List.getElem?_take] at hj
       split at hj
       ·rw[Nat.add_assoc]
        exact h5 _ u (by simpa using hj)
       ·cases hj
      ·cases h
     ·cases h
    ·rename_i T xs s m hcs
     split at h
     ·rename_i v
      split at h
      ·rename_i hb
       simp only[Bool.and_eq_true] at hb
       split at h
       ·rename_i a h2
        cases h
        obtain⟨L,hL,_,hat⟩:=g.get hs hcs
        obtain⟨K,hK,rfl⟩:=ZfC r
        rw[hL] at hK;cases hK
        have hi:i=xs.length:=ho
        obtain⟨u,h3,h4⟩:=Zte hat
        rw[Nat.eq_of_beq_eq_true hb.1,hat.1,Nat.mul_one,Nat.add_zero,hi]
        refine ZlV (cs:=[v]) (vals:=[u]) ht hk g ⟨rfl,fun j hj=>?_⟩ (fun j w hj=>?_) (Nat.eq_of_beq_eq_true hb.2).symm h2
        ·obtain rfl:j=0:=by simp at hj;exact hj
         exact h3
        ·have hj0:j=0:=by
          have:=(List.getElem?_eq_some_iff.1 hj).1
          simp at this;exact this
         subst hj0
         cases hj
         exact h4
       ·cases h
      ·cases h
     ·cases h
    ·cases h
   ·cases h
theorem ZdO(w:World)(g:Nat)(cs:Array Value):w.grownBy (w.setRow g cs) (some g) :=
 ⟨rfl,rfl,rfl,by simp,fun k _ hk=>setRow_other w g k _ (fun e=>hk (by rw[e]))⟩
theorem ZmM{cs new cs':List V}{off:Nat}(h:putCells cs off new=some cs'):off+new.length≤cs.length∧cs'=cs.take off++new++cs.drop (off+new.length):=by
 unfold putCells at h
 split at h
 ·rename_i hb
  cases h
  exact⟨Nat.le_of_ble_eq_true hb,by rw[Zex,List.append_assoc]⟩
 ·cases h
theorem Zby.put {cs new cs' : List V} {vals vs : List Value} {off : Nat} (h : putCells cs off new = some cs') (r : Zby P E cs vals) (rn : Zby P E new vs) :
 Zby P E cs' (vals.take off++vs++vals.drop (off+vs.length))∧off+vs.length≤vals.length:=by
 obtain⟨h1,rfl⟩:=ZmM h
 rw[rn.1,r.1]
 exact⟨((r.take off).append rn).append (r.drop _),h1⟩
theorem ZdK {t : TypeId} {ti : TI} (ht : ti.Ok P t) (w : World) (b off : Nat) (e : TypeId) (cur : Array Value) (v : Value) (hl : v.cells.toList.length = ti.size)
 (hb:w.heap[b]?=some (.cells cur e (0,0))) (hfit:off+v.cells.toList.length≤cur.size) (h1:∀ u∈v.cells.toList,u.oneCell'=true) :
 (storeVar t ⟨b,off,none⟩ v).run P w=.ok () (w.setRow b (cur.toList.take off++v.cells.toList++cur.toList.drop (off+v.cells.toList.length)).toArray):=by
 obtain⟨info,z,hi,hs,_⟩:=ht.info
 have hst:=run_storeCells_at P b off e v.cells.toList 0 cur w hb (by simpa using hfit) h1
 simp only[Nat.add_zero] at hst
 have:v.cells.size=ti.size:=by simpa using hl
 simp[storeVar,ZbN hi,hs,this,hst]
theorem Zkz{T:Ty}:∀ {n:Nat} {new:List V} {ys:List T.den} {vs:List Value},Zkk T n new=some ys→Zby P E new vs→Z3 E.w E.S T ys vs∧ys.length=n
 | 0,[],ys,vs,h,r=>by
   simp only[Zkk,Option.some.injEq] at h
   subst h
   exact⟨List.eq_nil_of_length_eq_zero r.1,rfl⟩
 | 0,_::_,ys,vs,h,r=>by simp[Zkk] at h
 | n+1,new,ys,vs,h,r=>by
   unfold Zkk at h
   split at h
   ·rename_i x hx
    split at h
    ·rename_i l hl
     split at h
     ·cases h
      obtain⟨h1,h2⟩:=Zkz hl (r.drop T.size)
      exact⟨⟨vs.take T.size,vs.drop T.size,(List.take_append_drop _ _).symm,Zcg hx (r.take T.size),h1⟩,by rw[List.length_cons,h2]⟩
     ·cases h
    ·cases h
   ·cases h
theorem Zn9 {l : Nat} {L : Loc} {T : Ty} {xs ys : List T.den} {cur' : List Value} {mv : Bool} (g : Z7 P E objs) (hl : Zv l objs = some (.row T xs)) (hL : E.loc l = some L) (hat : ZaM P E L (.row T xs))
 (hcap:0 < L.cap) (hys:ys.length≤L.cap) (hmv:mv=false→ys.length=xs.length) (hc:Z3 E.w E.S T ys (cur'.take (ys.length*T.size))) (hlen:cur'.length=L.cap*T.size) :
 Z7 P (E.setL (E.w.setRow L.b cur'.toArray) l { L with len:=ys.length }) (edit objs (some (l,.row T ys,mv))) ∧
 ZcH E objs (E.setL (E.w.setRow L.b cur'.toArray) l { L with len:=ys.length }) (edit objs (some (l,.row T ys,mv))) (moved (some (l,.row T ys,mv))):=by
 obtain⟨h1,h2,h3,e,cs,h4,h5⟩:=hat
 rcases h5 with h5 | ⟨cur,h5,h6,h7,h8,h9,h10,h11⟩
 ·omega
 ·have hhas:(Obj.row T xs).has L:=by simp only[Obj.has];omega
  have hgr:=ZdO E.w L.b cur'.toArray
  have hrow:∀ b,some L.b=some b→(Obj.row T xs).has L∧b=L.b:=fun b e=>⟨hhas,by cases e;rfl⟩
  have hL':mv=false→({ L with len:=ys.length }:Loc)=L:=fun e=>by rw[hmv e,← h3]
  have hS:∀ b,E.S b→E.S b∧(E.w.setRow L.b cur'.toArray).heap[b]?=E.w.heap[b]?:=fun b hs=>⟨hs,hgr.block b (g.sl b hs) (fun e=>by
   cases e;exact g.ns L.b ⟨l,_,L,hl,hL,hhas,rfl⟩ hs)⟩
  refine Z7.put g hl hL hgr hrow hL' ⟨h1,h2,rfl,e,_,hc.mono hS,.inr ⟨_,h5,setRow_heap _ _ _ _ _ _ h6,hys,hcap,h9,?_,by simp⟩⟩ (fun _=>.inl ⟨hhas,rfl⟩)
  simpa using hlen
theorem Zou (hτ : Zbs P τ) {t : TypeId} {a x : V} {out : Out} (h : Zll τ os t a x = some out) (hs : Sub os objs) (ho : okP out.ob) (g : Z7 P E objs) {c d : Value} (ra : Rep P E a c) (rx : Rep P E x d) :
 ZxY P (Instr.storeAt t c d) E objs out∧out.v=.tup []:=by
 unfold Zll at h
 split at h
 ·cases h
 ·rename_i ti hti
  have ht:=hτ t ti hti
  split at h
  ·cases h
  ·rename_i new hnew
   obtain⟨rn,hone⟩:=Zez hnew rx
   split at h
   ·cases h
   ·rename_i hsz
    have hl:d.cells.toList.length=ti.size:=rn.1.trans (Nat.eq_of_beq_eq_true hsz)
    split at h
    ·rename_i l off
     split at h
     ·rename_i cs hcs
      split at h
      ·rename_i cs' h1
       cases h
       obtain⟨L,hL,hobj,hat⟩:=g.get hs hcs
       obtain⟨K,hK,rfl⟩:=Zhk ra
       rw[hL] at hK;cases hK
       obtain⟨vals,t',h4,h5⟩:=Zls hat
       obtain⟨h6,h7⟩:=h5.put h1 rn
       have hrun:=ZdK ht E.w _ off t' vals d hl h4 (by simpa using h7) hone
       have hgr:=ZdO E.w L.b (vals.toList.take off++d.cells.toList++vals.toList.drop (off+d.cells.toList.length)).toArray
       have hrow:∀ b,some L.b=some b→(Obj.box cs).has L∧b=L.b:=fun b e=>⟨trivial,by cases e;rfl⟩
       have hx:=Zf1 g (M:=[]) hobj hL hgr hrow (fun _=>rfl)
       have h8:=h6.mono hx
       have hnew:=Z7.put g (mv:=false) (o':=.box cs') hobj hL hgr hrow (fun _=>rfl) ⟨_,t',setRow_heap _ _ _ _ _ _ h4,by simpa using h8.1,fun j hj=>by simpa[Array.getD_eq_getD_getElem?,List.getD_eq_getElem?_getD] using h8.2 j hj⟩ (fun _=>.inl ⟨trivial,rfl⟩)
       exact⟨⟨_,by simp only[Instr.storeAt,Instr.sureAddr,Sem.run_bind,Sem.run_pure,Result.andThen_ok];exact hrun,hnew.1,hnew.2⟩,rfl⟩
      ·cases h
     ·cases h
    ·rename_i l i off
     split at h
     ·rename_i T xs hcs
      obtain⟨L,hL,hobj,hat⟩:=g.get hs hcs
      obtain⟨K,hK,rfl⟩:=ZfC ra
      rw[hL] at hK;cases hK
      have hat0:=hat
      obtain⟨hesz,hpos,hlen,e,cs,h9,h10⟩:=hat
      split at h
      ·
       rename_i n e0 hk
       split at h
       ·rename_i hio
        simp only[Bool.and_eq_true] at hio
        obtain⟨h0,h00⟩:=hio
        obtain rfl:=Nat.eq_of_beq_eq_true h0
        obtain rfl:=Nat.eq_of_beq_eq_true h00
        split at h
        ·rename_i ys h1
         cases h
         obtain⟨h2,h3⟩:=Zkz h1 rn
         have hn:n=xs.length:=ho
         have hn0:0 < n:=by
          have:=ht.kind
          rw[hk] at this
          obtain⟨_,_,_,_,_,_,_,h,_⟩:=this
          exact h
         rcases h10 with ⟨_,rfl⟩ | ⟨cur,hv1,hv2,hv3,hv4,hv5,hv6,hv7⟩
         ·simp at hn;omega
         ·have h2l:=h2.length
          rw[h3,hn] at h2l
          have hcap:xs.length*T.size≤L.cap*T.size:=Nat.mul_le_mul_right _ hv3
          have hfit:0+d.cells.toList.length≤cur.size:=by rw[hv6,h2l];omega
          have hrun:=ZdK ht E.w _ 0 e cur d hl hv2 hfit hone
          have hnew := Zn9 (mv := false) (ys := ys) (cur' := cur.toList.take 0 ++ d.cells.toList ++ cur.toList.drop (0 + d.cells.toList.length)) g hobj hL hat0 hv4 (by omega) (fun _ => by omega)
           (by rw[h3,hn,List.take_zero,List.nil_append,← h2l,List.take_left];exact h2) (by simp only[List.length_append,List.length_take,List.length_drop,Array.length_toList] at hfit ⊢;omega)
          exact⟨⟨_,by simp only[Instr.storeAt,Instr.sureAddr,Sem.run_bind,Sem.run_pure,Result.andThen_ok,Nat.zero_mul,Nat.add_zero] at hrun ⊢;exact hrun,hnew.1,hnew.2⟩,rfl⟩
        ·cases h
       ·cases h
      ·split at h
       ·rename_i cs' h1
        split at h
        ·rename_i y h2
         cases h
         have hi:i < xs.length:=ho
         obtain⟨ce,h4,h5⟩:=Zpv hat0 hi
         obtain⟨h6,h7⟩:=(ZdS h4).put h1 rn
         have h8:=Zcg h2 h6
         have hcel:=h4.length
         rcases h10 with ⟨_,rfl⟩ | ⟨cur,hv1,hv2,hv3,hv4,hv5,hv6,hv7⟩
         ·simp at hi
         ·have hmul:i*T.size+T.size≤xs.length*T.size:=by rw[← Nat.succ_mul];exact Nat.mul_le_mul_right _ hi
          have hcap:xs.length*T.size≤L.cap*T.size:=Nat.mul_le_mul_right _ hv3
          have hfit:i*T.size+off+d.cells.toList.length≤cur.size:=by rw[hv6];omega
          have hrun:=ZdK ht E.w _ (i*T.size+off) e cur d hl hv2 hfit hone
          have hsp:=ZbO (A:=cur.toList) (vs:=d.cells.toList) (o:=i*T.size+off) (by simpa using hfit)
          have hspe:=ZbO (A:=ce) (vs:=d.cells.toList) (o:=off) h7
          have h11 : Z3 E.w E.S T (xs.set i y)
           ((cur.toList.take (i*T.size+off)++d.cells.toList++cur.toList.drop (i*T.size+off+d.cells.toList.length)).take (xs.length*T.size)):=by
           refine Z3.of_get (by simp only[List.length_take,List.length_append,List.length_drop,List.length_set,Array.length_toList];omega) (fun i' x hx'=>?_)
           rw[List.getElem?_set] at hx'
           split at hx'
           ·rename_i hii
            subst hii
            have hxy:y=x:=by simpa[hi] using hx'
            subst hxy
            refine⟨_,h8,fun j u hu=>?_⟩
            have hjl:j < T.size:=by
             have:=(List.getElem?_eq_some_iff.1 hu).1
             have:=h8.length
             omega
            rw[List.getElem?_take,if_pos (by omega),hsp]
            rw[hspe] at hu
            by_cases c1:j < off
            ·rw[if_pos c1] at hu
             rw[if_pos (by omega)]
             have:=h5 j u hu
             rw[ZcZ hv2] at this
             simpa using this
            ·rw[if_neg c1] at hu
             rw[if_neg (by omega)]
             by_cases c2:j < off+d.cells.toList.length
             ·rw[if_pos c2] at hu
              rw[if_pos (by omega),show i*T.size+j - (i*T.size+off)=j - off from by omega]
              exact hu
             ·rw[if_neg c2] at hu
              rw[if_neg (by omega)]
              have:=h5 j u hu
              rw[ZcZ hv2] at this
              simpa using this
           ·rename_i hii
            obtain⟨c,hc,hj⟩:=h9.get i' x hx'
            have hi':i' < xs.length:=(List.getElem?_eq_some_iff.1 hx').1
            have hcl:=hc.length
            refine⟨c,hc,fun j u hu=>?_⟩
            have hjl:j < T.size:=by have:=(List.getElem?_eq_some_iff.1 hu).1;omega
            have hm':i'*T.size+T.size≤xs.length*T.size:=by rw[← Nat.succ_mul];exact Nat.mul_le_mul_right _ hi'
            have hne:i'*T.size+T.size≤i*T.size∨i*T.size+T.size≤i'*T.size:=by
             rcases Nat.lt_or_ge i' i with hlt | hge
             ·left;rw[← Nat.succ_mul];exact Nat.mul_le_mul_right _ hlt
             ·right;rw[← Nat.succ_mul];exact Nat.mul_le_mul_right _ (by omega)
            have h12:=hj j u hu
            rw[← hv7,List.getElem?_take,if_pos (by omega)] at h12
            rw[List.getElem?_take,if_pos (by omega),hsp]
            rcases hne with hne | hne
            ·rw[if_pos (by omega)];exact h12
            ·rw[if_neg (by omega),if_neg (by omega)];exact h12
          have hnew:=Zn9 (mv:=false) (ys:=xs.set i y) (cur':=cur.toList.take (i*T.size+off)++d.cells.toList++cur.toList.drop (i*T.size+off+d.cells.toList.length)) g hobj hL hat0 hv4
           (by simpa using hv3) (fun _=>by simp) (by simpa using h11) (by simp only[List.length_append,List.length_take,List.length_drop,Array.length_toList] at hfit ⊢;omega)
          exact⟨⟨_,by rw[hesz];simp only[Instr.storeAt,Instr.sureAddr,Sem.run_bind,Sem.run_pure,Result.andThen_ok];exact hrun,hnew.1,hnew.2⟩,rfl⟩
        ·cases h
       ·cases h
     ·rename_i T xs s m hcs
      split at h
      ·rename_i v0
       split at h
       ·rename_i v
        split at h
        ·rename_i hoff
         cases h
         have hoff:=Nat.eq_of_beq_eq_true hoff
         subst hoff
         have hi:i=xs.length:=ho
         subst hi
         obtain⟨L,hL,hobj,hat⟩:=g.get hs hcs
         obtain⟨K,hK,rfl⟩:=ZfC ra
         rw[hL] at hK;cases hK
         obtain⟨hesz,h2,hlen,e,cs,h4,h5 | ⟨cur,h5,h6,h7,h8,h9,h10,h11,h12,h13⟩⟩:=hat
         ·have:=h5.2;simp at hlen;omega
         ·have hl1:d.cells.toList.length=1:=rn.1
          have hs1:d.cells.size=1:=by simpa using hl1
          have hlt:xs.length < cur.size:=by simp at hlen;omega
          have hrun:=ZdK ht E.w _ xs.length e cur d hl h6 (by omega) hone
          have hgr:=ZdO E.w L.b (cur.toList.take xs.length++d.cells.toList++cur.toList.drop (xs.length+d.cells.toList.length)).toArray
          have hhas:(Obj.vrow T xs [v0] m).has L:=by simp only[Obj.has];omega
          have hrow:∀ b,some L.b=some b→(Obj.vrow T xs [v0] m).has L∧b=L.b:=fun b e=>⟨hhas,by cases e;rfl⟩
          have hx:=Zf1 g (M:=[]) hobj hL hgr hrow (fun _=>rfl)
          have hsp:=ZbO (A:=cur.toList) (vs:=d.cells.toList) (o:=xs.length) (by simp;omega)
          have hnew:=Z7.put g (mv:=false) (o':=.vrow T xs [v] m) hobj hL hgr hrow (fun _=>rfl) ⟨hesz,h2,hlen,e,cs,h4.mono hx.S,.inr ⟨_,h5,setRow_heap _ _ _ _ _ _ h6,h7,h8,h9,by simp only[List.size_toArray,List.length_append,List.length_take,List.length_drop,Array.length_toList];omega,by
           rw[← h11]
           apply List.ext_getElem?
           intro j
           rw[List.getElem?_take,List.getElem?_take]
           split
           ·rename_i hj;rw[hsp,if_pos hj]
           ·rfl,fun j hj=>by
           have hj0:j=0:=by simp at hj;exact hj
           subst hj0
           have h3:=(rn.2 0 (by simp)).mono hx
           rw[Array.getD_eq_getD_getElem?,← Array.getElem?_toList,hsp,if_neg (by omega),if_pos (by omega)]
           simpa[List.getD_eq_getElem?_getD] using h3,fun j hj hj2=>by
           have hj:xs.length+1≤j:=hj
           rw[← Array.getElem?_toList,hsp,if_neg (by omega),if_neg (by omega),Array.getElem?_toList]
           exact h13 j hj hj2⟩⟩ (fun _=>.inl ⟨hhas,rfl⟩)
          exact⟨⟨_,by rw[hesz];simp only[Instr.storeAt,Instr.sureAddr,Sem.run_bind,Sem.run_pure,Result.andThen_ok,Nat.mul_one,Nat.add_zero];exact hrun,hnew.1,hnew.2⟩,rfl⟩
        ·cases h
       ·cases h
      ·cases h
     ·cases h
    ·cases h
theorem Zjv (hτ : Zbs P τ) {s : TypeId} {v : V} {f : Nat} {out : Out} (h : ZeM τ os s v f = some out) (g : Z7 P E objs) {c : Value} (r : Rep P E v c) :
 ZdH P (Instr.fieldAt s c f) E objs out:=by
 unfold ZeM at h
 split at h
 ·rename_i offs size bytes zero code hs
  have ht:=(hτ s _ hs).kind
  obtain⟨fs,h1,h2,h3⟩:=ht
  split at h
  ·rename_i o sz ho'
   have hnz:=h3 (o,sz) (List.mem_of_getElem? ho')
   have hfo:∃ fl,fs[f]?=some fl∧fl.offset=o∧P.cellsOf fl.type=sz:=by
    rw[← h2] at ho'
    simp only[List.getElem?_map,Option.map_eq_some_iff,Prod.mk.injEq] at ho'
    obtain⟨fl,h4,h5,h6⟩:=ho'
    exact⟨fl,by simpa using h4,h5,h6⟩
   obtain⟨fl,hf,hoff,hcs⟩:=hfo
   obtain⟨fi,hfi,hfz⟩:∃ i,P.info? fl.type=some i∧i.size≠0:=by
    cases hq:P.info? fl.type with
    | none=>simp[Program.cellsOf,hq] at hcs;exact absurd hcs.symm hnz
    | some i=>simp[Program.cellsOf,hq] at hcs;exact⟨i,rfl,fun e=>hnz (by simpa[← hcs] using e)⟩
   have hrun:∀ b off,(Instr.fieldAt s (.pointer (some ⟨b,off,none⟩)) f).run P E.w=.ok (.pointer (some ⟨b,off+o,none⟩)) E.w:=by
    intro b off
    simp[Instr.fieldAt,run_underlying h1,hf,Instr.sureAddr,fieldPlace,ZbN hfi,hfz,Addr.add_lit,hoff]
   split at h
   ·cases h
    obtain⟨L,hL,rfl⟩:=Zhk r
    exact .same g (hrun _ _) (.ref hL)
   ·cases h
    cases r with
    | er fc h4 h5 h6 =>
      rename_i cs b off
      refine .same g (hrun _ _) ?_
      rw[Zex]
      refine .er (fun j=>fc (o+j)) h4 (fun j hj=>?_) (fun j hj=>?_)
      ·simp only[List.length_drop] at hj
       rw[Nat.add_assoc];exact h5 _ (by omega)
      ·simp only[List.length_drop] at hj
       have:=h6 (o+j) (by omega)
       simpa[List.getD_eq_getElem?_getD] using this
   ·cases h
    obtain⟨L,hL,rfl⟩:=ZfC r
    refine .same g (hrun _ _) ?_
    rw[Nat.add_assoc]
    exact .rref hL
   ·cases h
  ·cases h
 ·cases h
theorem ZhH{T:Ty}{l:List T.den}{c:Value}(r:Rep P E (.d (.sl T) l) c):ZbD E.w E.S (.sl T) l [c]:=by cases r with | d h=>exact h
theorem Zuk {T : Ty} {x : T.den} {b off : Nat} {cs : List Value} (hb : E.S b) (h : ZbD E.w E.S T x cs) (hc : ∀ j u, cs[j]? = some u → E.w.cell? ⟨b, off + j, none⟩ = some u) :
 Rep P E (.er (flat T x)) (.pointer (some ⟨b,off,none⟩)):=by
 have r:=ZdS (P:=P) h
 refine .er (fun j=>cs.getD j undef) hb (fun j hj=>?_) (fun j hj=>r.2 j hj)
 have hj':j < cs.length:=by rw[r.1];exact hj
 exact hc j _ (by simp[List.getD_eq_getElem?_getD,List.getElem?_eq_getElem hj'])
theorem Ze9 {t e : TypeId} {ei : TI} (ht : P.underlying t = some (.slice e)) (hei : ei.Ok P e) {b off n cap : Nat} {k : IntKind} {i : Int} (w : World) (h0 : 0 ≤ i) (h1 : i < (n : Int)) :
 (Instr.indexAt t (.slice (some ⟨b,off,none⟩) n cap) (.int k i)).run P w=.ok (.pointer (some ⟨b,off+i.toNat*ei.size,none⟩)) w:=by
 obtain⟨info,z,hi,hs,_⟩:=hei.info
 simp[Instr.indexAt,asIntOf,run_underlying ht,h0,h1,ZbN hi,hs,Addr.add_lit]
theorem Zlp{L:Loc}{T:Ty}{xs:List T.den}(h:ZaM P E L (.row T xs)){lo n:Nat}(h1:lo+n≤xs.length)(h2:0 < n){c:Value}(hp:L.Part lo n c):c=.slice (some ⟨L.b,lo*T.size,none⟩) n (L.cap - lo):=by
 obtain⟨a,rfl,ha⟩:=hp
 obtain⟨hesz,hpos,hlen,e',cs,h9,h10⟩:=h
 rcases h10 with ⟨_,rfl⟩ | ⟨cur,hv1,hv2,hv3,_⟩
 ·simp at h1;omega
 ·have:L.cap≠lo:=by omega
  rw[ha this]
  simp[hv1,hesz,Addr.add_lit]
theorem Zjr (hτ : Zbs P τ) {t : TypeId} {x ix : V} {out : Out} (h : Zfe τ os t x ix = some out) (hs : Sub os objs) (ho : okP out.ob) (g : Z7 P E objs) {c d : Value} (rx : Rep P E x c) (ri : Rep P E ix d) :
 ZdH P (Instr.indexAt t c d) E objs out:=by
 unfold Zfe at h
 split at h
 ·rename_i e size bytes zero code hti
  have ht:P.underlying t=some (.slice e):=(hτ t _ hti).kind
  split at h
  ·rename_i k i0
   obtain⟨i,hi0⟩:∃ i:Int,i=i0:=⟨i0,rfl⟩
   subst hi0
   have hd:=ri.int_inv
   subst hd
   split at h
   ·rename_i ei hei
    have hei:=hτ e ei hei
    split at h
    ·rename_i T l
     split at h
     ·rename_i hsz
      have hsz:=Nat.eq_of_beq_eq_true hsz
      cases h
      obtain⟨h0,h1⟩:0≤i∧i < (List.length (α:=T.den) l:Int):=ho
      obtain⟨a,cap,hc,hcap,hl⟩:=ZhH rx
      have hc':c=.slice a (List.length (α:=T.den) l) cap:=by simpa using hc
      subst hc'
      have hlt:i.toNat < List.length (α:=T.den) l:=by omega
      obtain⟨b,off,rfl,hS,hx⟩:=hl (fun e=>by rw[e] at hlt;simp at hlt)
      obtain⟨cs,h2,h3⟩:=hx i.toNat (List.getD (α:=T.den) l i.toNat T.dflt) (by rw[List.getD_eq_getElem?_getD,List.getElem?_eq_getElem hlt];rfl)
      refine .same g (Ze9 ht hei E.w h0 h1) ?_
      rw[← hsz]
      exact Zuk hS h2 h3
     ·cases h
    ·rename_i l
     split at h
     ·rename_i T xs hcs
      split at h
      ·rename_i hsz
       have hsz:=Nat.eq_of_beq_eq_true hsz
       cases h
       obtain⟨h0,h1⟩:0≤i∧i < (xs.length:Int):=ho
       obtain⟨L,hL,_,hat⟩:=g.get hs hcs
       obtain⟨K,hK,rfl⟩:=Zcf rx
       rw[hL] at hK;cases hK
       obtain⟨hesz,hpos,hlen,e',cs,h9,h10⟩:=id hat
       rcases h10 with ⟨_,rfl⟩ | ⟨cur,hv1,hv2,_⟩
       ·simp at h1;omega
       ·unfold Loc.v
        rw[hv1,hlen]
        refine .same g (Ze9 ht hei E.w h0 h1) ?_
        rw[Nat.zero_add,← hsz,← hesz]
        exact .rref hL
      ·cases h
     ·rename_i T xs s m hcs
      split at h
      ·rename_i hsz
       have hsz:=Nat.eq_of_beq_eq_true hsz
       split at h
       ·cases h
       ·rename_i v vs
        cases h
        obtain⟨h0,h1⟩:0≤i∧i < ((xs.length+1+m:Nat):Int):=ho
        obtain⟨L,hL,_,hat⟩:=g.get hs hcs
        obtain⟨K,hK,rfl⟩:=Zcf rx
        rw[hL] at hK;cases hK
        obtain⟨hesz,hs1,hlen,e',cs,h9,h10⟩:=id hat
        have hlen:L.len=xs.length+1+m:=by rw[hlen];simp only[List.length_cons] at hs1 ⊢;omega
        rcases h10 with ⟨_,h10⟩ | ⟨cur,hv1,hv2,_⟩
        ·omega
        ·unfold Loc.v
         rw[hv1,hlen]
         refine .same g (Ze9 ht hei E.w h0 h1) ?_
         rw[Nat.zero_add,hsz,← hesz]
         exact .rref hL
      ·cases h
     ·cases h
    ·rename_i l lo m
     split at h
     ·rename_i T xs hcs
      split at h
      ·rename_i hsz
       have hsz:=Nat.eq_of_beq_eq_true hsz
       cases h
       obtain⟨h0,h1,h2⟩:0≤i∧i < (m:Int)∧lo+m≤xs.length:=ho
       obtain⟨L,hL,_,hat⟩:=g.get hs hcs
       obtain⟨K,hK,hp⟩:=Zdu rx
       rw[hL] at hK;cases hK
       rw[Zlp hat h2 (by omega) hp]
       refine .same g (Ze9 ht hei E.w h0 h1) ?_
       rw[← hsz,← Nat.add_mul,← hat.1]
       exact .rref hL
      ·cases h
     ·cases h
    ·rename_i l m
     split at h
     ·rename_i j
      split at h
      ·rename_i hb
       simp only[Bool.and_eq_true] at hb
       cases h
       obtain⟨L,hL,rfl⟩:=Zrr rx
       have hlt:j < m:=Nat.lt_of_lt_of_le (Nat.lt_succ_self j) (Nat.le_of_ble_eq_true hb.1)
       refine .same g (Ze9 ht hei E.w (Int.natCast_nonneg j) (by simpa using Int.ofNat_lt.2 hlt)) ?_
       rw[Nat.eq_of_beq_eq_true hb.2]
       simpa using Rep.ref hL
      ·cases h
     ·cases h
    ·split at h
     ·cases h;exact ho.elim
     ·cases h
    ·cases h
   ·cases h
  ·cases h
 ·rename_i m e size bytes zero code hti
  have ht:P.underlying t=some (.array m e):=(hτ t _ hti).kind.1
  split at h
  ·rename_i k i0
   obtain⟨i,hi0⟩:∃ i:Int,i=i0:=⟨i0,rfl⟩
   subst hi0
   have hd:=ri.int_inv
   subst hd
   split at h
   ·rename_i ei hei
    have hei:=hτ e ei hei
    split at h
    ·rename_i l
     split at h
     ·rename_i T xs hcs
      split at h
      ·rename_i hsz
       have hsz:=Nat.eq_of_beq_eq_true hsz
       cases h
       obtain⟨h0,h1⟩:0≤i∧i < (m:Int):=ho
       obtain⟨L,hL,_,hat⟩:=g.get hs hcs
       obtain⟨K,hK,rfl⟩:=ZfC rx
       rw[hL] at hK;cases hK
       obtain⟨info,z,hi,hs',_⟩:=hei.info
       refine .same (v:=.pointer (some ⟨L.b,i.toNat*T.size,none⟩)) g ?_ ?_
       ·simp[Instr.indexAt,asIntOf,run_underlying ht,h0,h1,ZbN hi,hs',Addr.add_lit,Instr.sureAddr,hsz]
       ·rw[← hat.1]
        exact .rref hL
      ·cases h
     ·cases h
    ·cases h
   ·cases h
  ·cases h
 ·cases h
end
section
variable {P:Program} {τ:Zar} {E:Env} {os objs:Zat} {n:Nat}
theorem ZeK{k:IntKind}{n:Int}(h:Zm k n):k.wrap n=n:=by
 cases k
 ·exact IntWalk.i8_in n h
 ·exact IntWalk.i16_in n h
 ·exact IntWalk.i32_in n h
 ·exact IntWalk.i64_in n h
 ·exact IntWalk.u8_in n h
 ·exact IntWalk.u16_in n h
 ·exact IntWalk.u32_in n h
 ·exact IntWalk.u64_in n h
theorem Zrk{k:IntKind}{n:Int}(h:okP (wr k n).ob):∃ c,c=Value.int k (k.wrap n)∧∀ E,Rep P E (wr k n).v c:=by
 refine⟨_,rfl,fun E=>?_⟩
 unfold wr at h ⊢
 split
 ·rename_i hs
  simp only[hs] at h
  rw[ZeK h]
  exact .mk_int _ _
 ·exact .mk_int _ _
theorem Zwx{k:IntKind}{p:Prop}{n:Int}(h:okP (wrD k p n).ob):p∧∃ c,c=Value.int k (k.wrap n)∧∀ E,Rep P E (wrD k p n).v c:=by
 unfold wrD at h ⊢
 split
 ·rename_i hs
  simp only[hs] at h
  exact⟨h.1,_,rfl,fun E=>by rw[ZeK h.2];exact .mk_int _ _⟩
 ·rename_i hs
  simp only[hs] at h
  exact⟨h,_,rfl,fun E=>.mk_int _ _⟩
theorem Zwn{wm:Bool}{k:IntKind}{n:Int}(h:okP (wrA wm k n).ob):∃ c,c=Value.int k (k.wrap n)∧∀ E,Rep P E (wrA wm k n).v c:=by
 cases wm with
 | true=>exact⟨_,rfl,fun E=>.mk_int _ _⟩
 | false=>exact Zrk h
theorem Zwu(wm:Bool)(k:IntKind)(n:Int):(wrA wm k n).ed=none:=by cases wm<;>(simp only[wrA];try unfold wr;try split)<;>rfl
theorem Ztd(k:IntKind)(n:Int):(wr k n).ed=none:=by unfold wr;split<;>rfl
theorem ZwH(k:IntKind)(p:Prop)(n:Int):(wrD k p n).ed=none:=by unfold wrD;split<;>rfl
theorem ZdH.same'{s:Sem Value}{v:Value}{out:Out}(g:Z7 P E objs)(he:out.ed=none)(h:s.run P E.w=.ok v E.w)(r:Rep P E out.v v):ZdH P s E objs out:=by
 obtain⟨ob,a,ed⟩:=out
 cases he
 exact .same g h r
theorem ZrL {wm : Bool} {op : BinOp} {k : IntKind} {a b : Int} {r : Out} (h : Zsp wm op k a b = some r) (ho : okP r.ob) (xt : TypeId) (w : World)
 (hs:op≠.shl∧op≠.shr):r.ed=none∧∃ c,(binOp op xt (.int k a) (.int k b)).run P w=.ok c w∧∀ E,Rep P E r.v c:=by
 cases op<;>simp only[Zsp,Option.some.injEq,reduceCtorEq] at h<;>try subst h
 case add=>obtain⟨c,rfl,hc⟩:=Zwn (P:=P) ho;exact⟨Zwu _ _ _,_,by simp[binOp,Op.intArith],hc⟩
 case sub=>obtain⟨c,rfl,hc⟩:=Zrk (P:=P) ho;exact⟨Ztd _ _,_,by simp[binOp,Op.intArith],hc⟩
 case mul=>obtain⟨c,rfl,hc⟩:=Zrk (P:=P) ho;exact⟨Ztd _ _,_,by simp[binOp,Op.intArith],hc⟩
 case quo=>obtain⟨hb,c,rfl,hc⟩:=Zwx (P:=P) ho;exact⟨ZwH _ _ _,_,by simp[binOp,Op.intDiv,hb],hc⟩
 case rem=>exact⟨rfl,_,by simp[binOp,Op.intDiv,show b≠0 from ho],fun E=>.mk_int _ _⟩
 case eql=>exact⟨rfl,_,by simp[binOp,Op.intCmp],fun E=>.mk_bool _⟩
 case neq=>exact⟨rfl,_,by simp[binOp,Op.intCmp],fun E=>.mk_bool _⟩
 case lss=>exact⟨rfl,_,by simp[binOp,Op.intCmp],fun E=>.mk_bool _⟩
 case leq=>exact⟨rfl,_,by simp[binOp,Op.intCmp],fun E=>.mk_bool _⟩
 case gtr=>exact⟨rfl,.bool (decide (b < a)),by simp[binOp,Op.intCmp],fun E=>.mk_bool _⟩
 case geq=>exact⟨rfl,.bool (decide (b≤a)),by simp[binOp,Op.intCmp],fun E=>.mk_bool _⟩
 case and=>exact⟨rfl,_,by simp[binOp,Op.intBits],fun E=>.mk_int _ _⟩
 case or=>exact⟨rfl,_,by simp[binOp,Op.intBits],fun E=>.mk_int _ _⟩
theorem ZcV(op:BinOp)(t:TypeId)(x y:Operand){a b:Value}(ha:a.oneCell'=true)(hn:a≠.nilIface)(w:World):(eqGuard op t x y a b).run P w=.ok () w:=by
 unfold eqGuard
 cases op<;>(first | (simp;done) | (cases a<;>first | (simp[Value.oneCell'] at ha;done) | (exact absurd rfl hn) | (simp;done)))
theorem Zga(op:BinOp)(t:TypeId)(x y:Operand)(k:IntKind)(a:Int)(b:Value)(w:World):(eqGuard op t x y (.int k a) b).run P w=.ok () w :=
 ZcV op t x y rfl (by simp) w
theorem Zln{t:TypeId}{x y:Value}{w:World}{r:Result Bool}(h:∀ d,(Op.equalIn (d+1) t x y).run P w=r):(Op.equal t x y).run P w=r:=h 9999
theorem Zkp{t:TypeId}(h:P.underlying t=some .bool)(a b:Bool)(w:World):(Op.equal t (.bool a) (.bool b)).run P w=.ok (a == b) w :=
 Zln fun d=>by simp only[Op.equalIn,Sem.run_bind,run_underlying h,Result.andThen_ok,Sem.run_pure]
theorem ZrG{t e:TypeId}(h:P.underlying t=some (.pointer e))(q:Option Addr)(w:World):(Op.equal t (.pointer q) (.pointer none)).run P w=.ok q.isNone w :=
 Zln fun d=>by cases q<;>simp only[Op.equalIn,Sem.run_bind,run_underlying h,Result.andThen_ok,Sem.run_pure,Option.isNone]
theorem ZjT {t : TypeId} {x y : Value} {b : Bool} {w : World} (h : (Op.equal t x y).run P w = .ok b w)
 (hs:(∃ a c,x=.bool a∧y=.bool c)∨(∃ a c,x=.pointer a∧y=.pointer c)) :
 (binOp .eql t x y).run P w=.ok (.bool b) w∧(binOp .neq t x y).run P w=.ok (.bool !b) w:=by
 rcases hs with ⟨a,c,rfl,rfl⟩ | ⟨a,c,rfl,rfl⟩<;>simp only[binOp,Sem.run_bind,h,Result.andThen_ok,Sem.run_pure,and_self]
theorem ZsE (hτ : Zbs P τ) {op : BinOp} {xt : TypeId} {ox oy : Operand} {x y : V} {out : Out} (h : Zrz τ op xt x y = some out) (ho : okP out.ob) (g : Z7 P E objs) {c d : Value}
 (rx:Rep P E x c) (ry:Rep P E y d):ZdH P (do eqGuard op xt ox oy c d;binOp op xt c d) E objs out:=by
 unfold Zrz at h
 split at h
 ·rename_i k a0
  obtain⟨a,ha0⟩:∃ a:Int,a=a0:=⟨a0,rfl⟩
  subst ha0
  have hc:=rx.int_inv
  subst hc
  split at h
  ·rename_i k' b0
   obtain⟨b,hb0⟩:∃ b:Int,b=b0:=⟨b0,rfl⟩
   subst hb0
   have hd:=ry.int_inv
   subst hd
   split at h
   ·cases h
    have ho:0≤b:=ho
    exact .same g (v:=.int k (k.wrap (a*2 ^ (min b.toNat k.bits)))) (by have hb:¬ (b:Int) < 0:=Int.not_lt.mpr ho;simp[Zga,binOp,Op.shift,hb]) (.mk_int _ _)
   ·cases h
    have ho:0≤b:=ho
    exact .same g (v:=.int k (a.fdiv (2 ^ (min b.toNat k.bits)))) (by have hb:¬ (b:Int) < 0:=Int.not_lt.mpr ho;simp[Zga,binOp,Op.shift,hb]) (.mk_int _ _)
   ·rename_i n1 n2
    split at h
    ·rename_i hk
     have hk:=ZlF hk
     subst hk
     obtain⟨h1,c,h2,h3⟩:=ZrL (P:=P) h ho xt E.w ⟨fun e=>by subst e;exact (n1 rfl).elim,fun e=>by subst e;exact (n2 rfl).elim⟩
     exact .same' g h1 (by simp only[Sem.run_bind,Zga,Result.andThen_ok];exact h2) (h3 E)
    ·cases h
  ·cases h
 ·rename_i a0
  obtain⟨a,ha0⟩:∃ a:Bool,a=a0:=⟨a0,rfl⟩
  subst ha0
  have hc:=rx.bool_inv
  subst hc
  split at h
  ·rename_i b0
   obtain⟨b,hb0⟩:∃ b:Bool,b=b0:=⟨b0,rfl⟩
   subst hb0
   have hd:=ry.bool_inv
   subst hd
   split at h
   ·rename_i sz by_ ze co hs
    have ht:P.underlying xt=some .bool:=(hτ xt _ hs).kind
    split at h
    ·cases h
     exact .same g (v:=.bool (a == b)) (by simp only[Sem.run_bind,ZcV _ _ _ _ (show (Value.bool a).oneCell'=true from rfl) (by simp),Result.andThen_ok];exact (ZjT (Zkp ht a b E.w) (.inl ⟨a,b,rfl,rfl⟩)).1) (.mk_bool _)
    ·cases h
     exact .same g (v:=.bool (a != b)) (by simp only[Sem.run_bind,ZcV _ _ _ _ (show (Value.bool a).oneCell'=true from rfl) (by simp),Result.andThen_ok];exact (ZjT (Zkp ht a b E.w) (.inl ⟨a,b,rfl,rfl⟩)).2) (.mk_bool _)
    ·cases h
   ·cases h
  ·cases h
 ·split at h
  ·cases ry
   split at h
   ·rename_i sz by_ ze co hs
    obtain⟨e,ht⟩:∃ e,P.underlying xt=some (.pointer e):=(hτ xt _ hs).kind
    have key:∀ (b:Bool) (q:Option Addr),c=.pointer q→q.isNone=b→ZeX op b=some out→ZdH P (do eqGuard op xt ox oy c (.pointer none);binOp op xt c (.pointer none)) E objs out:=by
     intro b q hq hb h
     subst hq
     subst hb
     have heq:=ZjT (ZrG ht q E.w) (.inr ⟨_,_,rfl,rfl⟩)
     unfold ZeX at h
     split at h
     ·cases h
      exact .same g (by simp only[Sem.run_bind,ZcV _ _ _ _ (show (Value.pointer q).oneCell'=true from rfl) (by simp),Result.andThen_ok];exact heq.1) (.mk_bool _)
     ·cases h
      exact .same g (by simp only[Sem.run_bind,ZcV _ _ _ _ (show (Value.pointer q).oneCell'=true from rfl) (by simp),Result.andThen_ok];exact heq.2) (.mk_bool _)
     ·cases h
    split at h
    ·cases rx;exact key true none rfl rfl h
    ·obtain⟨b,off,vals,rfl,_⟩:=Zmv rx
     exact key false _ rfl rfl h
    ·cases rx with
     | opt h1 h2 =>
       rename_i b _ _ _
       cases b with
       | true=>obtain⟨b,off,vals,rfl,_⟩:=Zmv (h1 rfl);exact key false _ rfl rfl h
       | false=>exact key true none (h2 rfl) rfl h
    ·cases h
   ·cases h
  ·cases h
theorem Ztv{op:UnOp}{x:V}{out:Out}(h:ZvI op x=some out)(ho:okP out.ob)(g:Z7 P E objs){c:Value}(rx:Rep P E x c):ZdH P (Op.unary op c) E objs out:=by
 unfold ZvI at h
 split at h
 ·split at h
  ·rename_i k n
   cases h
   have hc:=rx.int_inv
   subst hc
   obtain⟨c,rfl,hc⟩:=Zrk (P:=P) ho
   exact .same' g (Ztd _ _) (by simp[Op.unary,Op.intArith]) (hc E)
  ·cases h
 ·split at h
  ·cases h
   have hc:=rx.bool_inv
   subst hc
   exact .same g (by simp[Op.unary]) (.mk_bool _)
  ·cases h
 ·cases h
theorem ZhK {mx : Bool} {x y : V} {out : Out} (h : Zgp mx x y = some out) (g : Z7 P E objs) {c d : Value} (rx : Rep P E x c) (ry : Rep P E y d) (ts : Array TypeId) (t : TypeId) :
 ZdH P (if mx then Builtin.max_ ts t #[c,d] else Builtin.min_ ts t #[c,d]) E objs out:=by
 unfold Zgp at h
 split at h
 ·rename_i k a0
  obtain⟨a,ha0⟩:∃ a:Int,a=a0:=⟨a0,rfl⟩
  subst ha0
  have hc:=rx.int_inv
  subst hc
  split at h
  ·rename_i k' b0
   obtain⟨b,hb0⟩:∃ b:Int,b=b0:=⟨b0,rfl⟩
   subst hb0
   have hd:=ry.int_inv
   subst hd
   split at h
   ·rename_i hk
    have hk:=ZlF hk
    subst hk
    have e1:(max a b:Int)=if b > a then b else a:=by omega
    have e2:(min a b:Int)=if b < a then b else a:=by omega
    split at h
    ·cases h
     exact .same g (v:=.int k (max a b)) (by rw[e1];simp[Builtin.max_,Builtin.max2]) (.mk_int _ _)
    ·cases h
     exact .same g (v:=.int k (min a b)) (by rw[e2];simp[Builtin.min_,Builtin.min2]) (.mk_int _ _)
   ·cases h
  ·cases h
 ·cases h
theorem ZgO{v:V}{p:Option Prop}{b:Bool}{c:Value}(h:ZtR v=some (p,b))(hp:okP p)(r:Rep P E v c):c=.bool b:=by
 unfold ZtR at h
 split at h
 ·cases h;exact r.bool_inv
 ·cases h
  cases r with | when h1 h2=>exact (h1 hp).bool_inv
 ·cases h
theorem Zhz{c:Bool}{p q:Option Prop}(h:okP (ZoX c p q)):(c=true→okP p)∧(c=false→okP q):=by
 cases p<;>cases q
 ·exact⟨fun _=>trivial,fun _=>trivial⟩
 ·exact⟨fun _=>trivial,h⟩
 ·exact⟨h,fun _=>trivial⟩
 ·exact h
theorem ZqC {oa ob : Operand} {c x y : V} {out : Out} (h : Zn1 oa ob c x y = some out) (ho : okP out.ob) (g : Z7 P E objs) {c' x' y' : Value} (rc : Rep P E c c') (rx : Rep P E x x') (ry : Rep P E y y')
 (hx:∀ b,oa=.const (.bool b)→x'=.bool b) (hy:∀ b,ob=.const (.bool b)→y'=.bool b) :
 ZdH P (do pure (if ← Go.asBool c' then x' else y')) E objs out:=by
 unfold Zn1 at h
 split at h
 ·rename_i c0
  obtain⟨c,hc0⟩:∃ c:Bool,c=c0:=⟨c0,rfl⟩
  subst hc0
  have hc:=rc.bool_inv
  subst hc
  split at h
  ·rename_i gx x h2
   split at h
   ·rename_i gy y h3
    split at h
    ·cases h
     have e:=hx true rfl
     subst e
     cases c with
     | true=>exact .same g (v:=.bool true) (by simp[Go.asBool]) (.mk_bool _)
     | false =>
       have e:=ZgO h3 ((Zhz ho).2 rfl) ry
       subst e
       exact .same g (v:=.bool y) (by simp[Go.asBool]) (by simpa using .mk_bool _)
    ·split at h
     ·cases h
      have e:=hy false rfl
      subst e
      cases c with
      | false=>exact .same g (v:=.bool false) (by simp[Go.asBool]) (.mk_bool _)
      | true =>
        have e:=ZgO h2 ((Zhz ho).1 rfl) rx
        subst e
        exact .same g (v:=.bool x) (by simp[Go.asBool]) (by simpa using .mk_bool _)
     ·cases h
      obtain⟨h4,h5⟩:=Zhz ho
      cases c with
      | true =>
        have e:=ZgO h2 (h4 rfl) rx
        subst e
        exact .same g (v:=.bool x) (by simp[Go.asBool]) (by simpa using .mk_bool _)
      | false =>
        have e:=ZgO h3 (h5 rfl) ry
        subst e
        exact .same g (v:=.bool y) (by simp[Go.asBool]) (by simpa using .mk_bool _)
   ·cases h
  ·cases h
 ·cases h
end
section
variable {P:Program} {τ:Zar} {E:Env} {os objs:Zat} {n:Nat}
theorem Zgt (g : Z7 P E objs) (hf : E.loc n = none) {cs : List V} {vals : Array Value} {t : TypeId} (r : Zby P E cs vals.toList) :
 ∃ E',E'.w=E.w.alloc (.cells vals t)∧Z7 P E' ((n,.box cs)::objs)∧ZcH E objs E' ((n,.box cs)::objs) []∧E'.loc n=some { b:=E.w.heap.size }:=by
 have hw:=World.grownBy_alloc E.w (.cells vals t) none
 let L:Loc:={ b:=E.w.heap.size }
 have hx:=Zgx g L hf hw
 have hr:=r.mono hx
 have h := Z7.push g (L := L) (o := .box cs) hf hw ⟨vals, t, heap_alloc_new _ _, by simpa using hr.1,
  fun j hj=>by simpa[Array.getD_eq_getD_getElem?,List.getD_eq_getElem?_getD] using hr.2 j hj⟩ (fun _=>Nat.le_refl _)
 exact⟨_,rfl,h.1,h.2,ZP _ _ _ _⟩
theorem ZgZ (g : Z7 P E objs) (hf : E.loc n = none) {T : Ty} {xs : List T.den} {w : World} {cur : Array Value} {e : TypeId} {cap : Nat} (hw : E.w.grownBy w none) (hb : w.heap[E.w.heap.size]? = some (.cells cur e (0, 0)))
 (hpos:0 < T.size) (hcap:xs.length≤cap) (hmax:cap≤maxLen) (hsz:cur.size=cap*T.size) {cs:List Value} (hc:Z3 E.w E.S T xs cs) (ht:cur.toList.take (xs.length*T.size)=cs) :
 ∃ E',E'.w=w∧Z7 P E' ((n,.row T xs)::objs)∧ZcH E objs E' ((n,.row T xs)::objs) []∧E'.loc n=some ⟨E.w.heap.size,some ⟨E.w.heap.size,0,none⟩,xs.length,cap,T.size⟩:=by
 let L:Loc:=⟨E.w.heap.size,some ⟨E.w.heap.size,0,none⟩,xs.length,cap,T.size⟩
 have hx:=Zgx g L hf hw
 have h:=Z7.push g (L:=L) (o:=.row T xs) hf hw ⟨rfl,hpos,rfl,e,cs,hc.mono hx.S,by
  by_cases hz:cap=0
  ·subst hz
   exact .inl ⟨rfl,List.eq_nil_of_length_eq_zero (by omega)⟩
  ·exact .inr ⟨cur,rfl,hb,hcap,Nat.pos_of_ne_zero hz,hmax,hsz,ht⟩⟩ (fun _=>Nat.le_refl _)
 exact⟨_,rfl,h.1,h.2,ZP _ _ _ _⟩
theorem Zr3 (g : Z7 P E objs) (hf : E.loc n = none) {T : Ty} {m : Nat} {w : World} {cur : Array Value} {e : TypeId} {cap : Nat} (hw : E.w.grownBy w none) (hb : w.heap[E.w.heap.size]? = some (.cells cur e (0, 0)))
 (hcap:m≤cap) (hmax:cap≤maxLen) (hsz:cur.size=cap) (hz:∀ i,i < m→cur[i]?=some (.slice none 0 0)) :
 ∃ E',E'.w=w∧Z7 P E' ((n,.vrow T [] [] m)::objs)∧ZcH E objs E' ((n,.vrow T [] [] m)::objs) []∧E'.loc n=some ⟨E.w.heap.size,some ⟨E.w.heap.size,0,none⟩,m,cap,1⟩:=by
 let L:Loc:=⟨E.w.heap.size,some ⟨E.w.heap.size,0,none⟩,m,cap,1⟩
 have h:=Z7.push g (L:=L) (o:=.vrow T [] [] m) hf hw ⟨rfl,Nat.zero_le _,by simp[L],e,[],rfl,by
  by_cases h0:cap=0
  ·subst h0
   exact .inl ⟨rfl,Nat.eq_zero_of_le_zero hcap⟩
  ·exact .inr ⟨cur,rfl,hb,hcap,Nat.pos_of_ne_zero h0,hmax,hsz,by simp,fun j hj=>by simp at hj,fun i _ hi=>hz i hi⟩⟩ (fun _=>Nat.le_refl _)
 exact⟨_,rfl,h.1,h.2,ZP _ _ _ _⟩
theorem Zb6{w:World}{S:Nat→Prop}{T:Ty}{zs:List Value}(h:ZbD w S T T.dflt zs):∀ n:Nat,Z3 w S T (List.replicate n T.dflt) (List.replicate n zs).flatten
 | 0=>rfl
 | n+1=>⟨zs,_,by simp[List.replicate_succ],h,Zb6 h n⟩
theorem Zoh(hτ:Zbs P τ){t:TypeId}{out:Out}(h:Zk8 τ n t=some out)(g:Z7 P E objs)(hf:E.loc n=none):ZdH P (Instr.alloc t true (.tuple #[])) E objs out:=by
 unfold Zk8 at h
 split at h
 ·rename_i m e size bytes zero code hti
  obtain⟨info,z,hi,hs,hb,hz,hzl,hzs⟩:=(hτ t _ hti).info
  obtain⟨ht,ie,ze,hie,hze,hzz,hsz,hn0,hn1,hes⟩:=(hτ t _ hti).kind
  split at h
  ·rename_i k sz by_ zero' T he
   cases h
   have hei:=hτ e _ he
   obtain⟨hTs,hpos,hcz⟩:=hei.code T rfl
   obtain⟨info2,z2,hi2,hs2,hb2,hz2,hzl2,hzs2⟩:=hei.info
   rw[hie] at hi2
   cases hi2
   rw[hze] at hz2
   cases hz2
   have hpos:0 < T.size:=by rw[hTs];exact hpos
   have hcl:Z3 E.w E.S T (List.replicate m T.dflt) z.cells.toList:=by
    rw[hzl,show zero=_ from hzz,hzl2]
    exact Zb6 (hcz _ _) m
   have hlen:=hcl.length
   rw[List.length_replicate] at hlen
   obtain⟨E',hw,h1,h2,h3⟩:=ZgZ (cap:=m) g hf (World.grownBy_alloc E.w (.cells z.cells t) none) (heap_alloc_new _ _) hpos (by simp) (by unfold maxLen;omega) (by simpa using hlen) hcl
    (List.take_of_length_le (by rw[List.length_replicate,hlen];exact Nat.le_refl _))
   refine⟨E',_,by rw[hw];simp[Instr.alloc,ZdW hi hz,newVar,newRow];rfl,h1,h2,?_⟩
   simpa using Rep.rref (i:=0) (off:=0) h3
  ·cases h
   obtain⟨E',hw,h1,h2,h3⟩:=Zgt g hf (t:=t) (cs:=ZmE zero) (vals:=z.cells) (by rw[hzl];exact Zfv _)
   exact⟨E',_,by rw[hw];simp[Instr.alloc,ZdW hi hz,newVar,newRow],h1,h2,.ref h3⟩
  ·cases h
 ·rename_i zero _ hn hti
  cases h
  obtain⟨info,z,hi,hs,hb,hz,hzl,hzs⟩:=(hτ t _ hti).info
  obtain⟨E',hw,h1,h2,h3⟩:=Zgt g hf (t:=t) (cs:=ZmE zero) (vals:=z.cells) (by rw[hzl];exact Zfv _)
  exact⟨E',_,by rw[hw];simp[Instr.alloc,ZdW hi hz,newVar,newRow],h1,h2,.ref h3⟩
 ·cases h
theorem Zr8{t:TypeId}{x:V}{out:Out}(h:Zsi n x=some out)(g:Z7 P E objs)(hf:E.loc n=none){c:Value}(r:Rep P E x c):ZdH P (Instr.box t c) E objs out:=by
 unfold Zsi at h
 split at h
 ·rename_i cs h1
  cases h
  obtain⟨E',hw,h2,h3,h4⟩:=Zgt g hf (t:=t) (Zez h1 r).1
  exact⟨E',_,by rw[hw];simp[Instr.box,newVar,newRow],h2,h3,.ref h4⟩
 ·cases h
theorem Zjx (off : Nat) : ∀ (vs : List Value) (k : Nat) (cells : Array Value), off + k + vs.length ≤ cells.size →
 (vs.zipIdx k).foldl (fun cs (p:Value×Nat)=>cs.setIfInBounds (off+p.2) p.1) cells=(cells.toList.take (off+k)++vs++cells.toList.drop (off+k+vs.length)).toArray
 | [],k,cells,h=>by simp
 | v::vs,k,cells,h=>by
   simp only[List.zipIdx_cons,List.foldl_cons,List.length_cons] at h ⊢
   rw[Zjx off vs (k+1) _ (by simp;omega)]
   apply Array.ext'
   simp only[Array.toList_setIfInBounds]
   apply List.ext_getElem?
   intro j
   have e1:off+(k+1)=off+k+1:=by omega
   rw[e1]
   have s1:=ZbO (A:=cells.toList.set (off+k) v) (vs:=vs) (o:=off+k+1) (by simp;omega) j
   have s2:=ZbO (A:=cells.toList) (vs:=v::vs) (o:=off+k) (by simp;omega) j
   have e2:off+k+(vs.length+1)=off+k+1+vs.length:=by omega
   simp only[List.length_cons,e2] at s2 ⊢
   rw[s1,s2]
   by_cases c1:j < off+k
   ·rw[if_pos (by omega),if_pos c1,List.getElem?_set_ne (by omega)]
   ·by_cases c2:j=off+k
    ·subst c2
     rw[if_pos (by omega),if_neg c1,if_pos (by omega)]
     rw[List.getElem?_set_self (by simp;omega)]
     simp
    ·rw[if_neg (by omega),if_neg c1]
     by_cases c3:j < off+k+1+vs.length
     ·rw[if_pos c3,if_pos (by omega)]
      have:j - (off+k)=(j - (off+k+1))+1:=by omega
      rw[this];simp
     ·rw[if_neg c3,if_neg (by omega),List.getElem?_set_ne (by omega)]
theorem Zi0 {place : Nat → Option (Nat × Nat)} {cells : Array Value} {i off size : Nat} {v : Value} {rest : List (Nat × Value)} (hp : place i = some (off, size)) (hs : v.cells.toList.length = size)
 (hf:off+size≤cells.size):Instr.fill place cells ((i,v)::rest)=Instr.fill place (cells.toList.take off++v.cells.toList++cells.toList.drop (off+v.cells.toList.length)).toArray rest:=by
 have hsz:v.cells.size=size:=by simpa using hs
 have h1:¬ (v.cells.size≠size∨off+v.cells.size > cells.size):=by omega
 have hfo:=Zjx off v.cells.toList 0 cells (by simp;omega)
 simp only[Instr.fill,hp]
 rw[if_neg (by simpa using h1)]
 congr 1
 rw[← Array.foldl_toList,Array.toList_zipIdx]
 simpa using hfo
theorem ZlZ {offs : List (Nat × Nat)} : ∀ {parts : List (Nat × V)} {vals : List (Nat × Value)} {cs cs' : List V} {cells : Array Value}, Zqi offs cs parts = some cs' → Zby P E cs cells.toList →
 parts.map (·.1)=vals.map (·.1)→(∀ (j:Nat) (p:Nat×V) (q:Nat×Value),parts[j]?=some p→vals[j]?=some q→Rep P E p.2 q.2) →
 ∃ cells',Instr.fill (offs[·]?) cells vals=some cells'∧Zby P E cs' cells'.toList
 | [],vals,cs,cs',cells,h,r,hm,_=>by
   have:vals=[]:=by simpa using hm.symm
   subst this
   simp only[Zqi] at h
   cases h
   exact⟨cells,rfl,r⟩
 | (i,v)::parts,[],cs,cs',cells,h,r,hm,_=>by simp at hm
 | (i,v)::parts,(i',c)::vals,cs,cs',cells,h,r,hm,hr=>by
   simp only[List.map_cons,List.cons.injEq] at hm
   obtain⟨rfl,hm⟩:=hm
   simp only[Zqi] at h
   split at h
   ·rename_i o m ho
    split at h
    ·rename_i new hn
     split at h
     ·rename_i hlen
      have hlen:=Nat.eq_of_beq_eq_true hlen
      split at h
      ·rename_i cs1 h1
       have hc:=(Zez hn (hr 0 _ _ rfl rfl)).1
       obtain⟨h3,h4⟩:=r.put h1 hc
       have hl:c.cells.toList.length=m:=hc.1.trans hlen
       obtain⟨cells',h5,h6⟩:=ZlZ (vals:=vals) (cells:=(cells.toList.take o++c.cells.toList++cells.toList.drop (o+c.cells.toList.length)).toArray) h (by simpa using h3) hm
        (fun j p q hp hq=>hr (j+1) p q (by simpa using hp) (by simpa using hq))
       exact⟨cells',by rw[Zi0 (place:=(offs[·]?)) ho hl (by simp at h4 hl ⊢;omega)];exact h5,h6⟩
      ·cases h
     ·cases h
    ·cases h
   ·cases h
theorem Zo3{α β:Type}{f:α→Sem β}{g:α→β}:∀ {l:List α},(∀ x∈l,∀ w,(f x).run P w=.ok (g x) w)→∀ w,(l.mapM f).run P w=.ok (l.map g) w
 | [],_,w=>by simp
 | x::l,h,w=>by
   have h1:=h x (by simp) w
   have h2:=Zo3 (l:=l) (fun y hy=>h y (by simp[hy])) w
   simp[h1,h2]
theorem ZkS{p q:Nat→Option (Nat×Nat)}:∀ {parts:List (Nat×Value)} {cells cells':Array Value},(∀ i r,p i=some r→q i=some r)→Instr.fill p cells parts=some cells'→Instr.fill q cells parts=some cells'
 | [],_,_,_,h=>h
 | (i,v)::rest,cells,cells',hpq,h=>by
   unfold Instr.fill at h ⊢
   cases hp:p i with
   | none=>rw[hp] at h;cases h
   | some r =>
     rw[hp] at h
     rw[hpq i r hp]
     simp only at h ⊢
     split at h
     ·cases h
     ·rename_i hc
      rw[if_neg hc]
      exact ZkS hpq h
theorem ZnP (hτ : Zbs P τ) {t : TypeId} {parts : List (Nat × V)} {vals : Array (Nat × Value)} {out : Out} (h : Zl2 τ t parts = some out) (g : Z7 P E objs)
 (hm:parts.map (·.1)=vals.toList.map (·.1)) (hr:∀ (j:Nat) (p:Nat×V) (q:Nat×Value),parts[j]?=some p→vals.toList[j]?=some q→Rep P E p.2 q.2):ZdH P (Instr.build t vals) E objs out:=by
 unfold Zl2 at h
 split at h
 ·rename_i offs sz by_ zero co hti
  split at h
  ·rename_i cs h1
   cases h
   have hok:=hτ t _ hti
   obtain⟨fs,h2,h3,h4⟩:=hok.kind
   obtain⟨info,z,hi,hs,hb,hz,hzl,hzs⟩:=hok.info
   obtain⟨cells',h5,h6⟩:=ZlZ (vals:=vals.toList) (cells:=z.cells) h1 (by rw[hzl];exact Zfv _) hm hr
   have hplaces:∀ w,(fs.mapM (fun f=>Prod.mk f.offset <$> sizeOf f.type):Sem (Array (Nat×Nat))).run P w=.ok offs.toArray w:=by
    intro w
    rw[Array.mapM_eq_mapM_toList]
    simp only[Sem.run_map]
    rw[Zo3 (g:=fun f=>(f.offset,P.cellsOf f.type))]
    ·simp[h3]
    ·intro f hf w
     have hnz:=h4 (f.offset,P.cellsOf f.type) (by rw[← h3];exact List.mem_map.2 ⟨f,hf,rfl⟩)
     cases hq:P.info? f.type with
     | none=>simp[Program.cellsOf,hq] at hnz
     | some i=>simp[ZbN hq,Program.cellsOf,hq]
   refine .same g (v:=.agg cells') ?_ (.agg (by simpa using h6.1) (fun j hj=>by simpa[Array.getD_eq_getD_getElem?,List.getD_eq_getElem?_getD] using h6.2 j hj))
   simp[Instr.build,ZdW hi hz,run_underlying h2,hplaces,h5]
  ·cases h
 ·rename_i m e size bytes zero code hti
  obtain⟨info,z,hi,hs,hb,hz,hzl,hzs⟩:=(hτ t _ hti).info
  have ht:=(hτ t _ hti).kind.1
  split at h
  ·rename_i ei he
   split at h
   ·rename_i cs h1
    cases h
    obtain⟨info2,z2,hi2,hs2,_⟩:=(hτ e _ he).info
    obtain⟨cells',h5,h6⟩:=ZlZ (vals:=vals.toList) (cells:=z.cells) h1 (by rw[hzl];exact Zfv _) hm hr
    refine .same g (v:=.agg cells') ?_ (.agg (by simpa using h6.1) (fun j hj=>by simpa[Array.getD_eq_getD_getElem?,List.getD_eq_getElem?_getD] using h6.2 j hj))
    have h7:=ZkS (q:=fun i=>some (i*ei.size,ei.size)) (fun i r hr=>by
     simp only[List.getElem?_map,Option.map_eq_some_iff] at hr
     obtain⟨k,hk,rfl⟩:=hr
     have:=List.getElem?_range (List.length_range▸(List.getElem?_eq_some_iff.1 hk).1)
     rw[hk] at this
     cases this
     rfl) h5
    simp[Instr.build,ZdW hi hz,run_underlying ht,ZbN hi2,hs2,h7]
   ·cases h
  ·cases h
 ·cases h
theorem ZqW (hτ : Zbs P τ) {t e : TypeId} {m size bytes : Nat} {zero : List Value} {code : Option Ty} {ei : TI} {k : IntKind} {cs : List V} {i : Nat} {v : V} (hti : τ t = some ⟨.arr m e, size, bytes, zero, code⟩)
 (he:τ e=some ei) (h1:i < m) (h2:ei.size=1) (h3:ei.isAgg=false) (h4:ei.k.known=true) (hv:cs[i]?=some v) (w:World) {c:Value} (rx:Rep P E (.agg cs) c) :
 ∃ u,Rep P E v u∧(Instr.index t c (.int k i)).run P w=.ok u w:=by
 have ht:=(hτ t _ hti).kind.1
 have hei:=hτ e _ he
 obtain⟨info,z,hi,hs,_⟩:=hei.info
 cases rx with
 | agg hl hcs =>
   rename_i a
   have hlt:i < cs.length:=(List.getElem?_eq_some_iff.1 hv).1
   have hr:=hcs i hlt
   have e1:cs.getD i .any=v:=by rw[List.getD_eq_getElem?_getD,hv];rfl
   rw[e1] at hr
   refine⟨a.getD i undef,hr,?_⟩
   obtain⟨d,hd1,hd2⟩:=hei.desc h4
   have hag:=Ziu (P:=P) hd1 w
   rw[hd2,h3] at hag
   have hlt':i < a.size:=by rw[hl];exact hlt
   have hsz:info.size=1:=by rw[hs];exact h2
   have hi1:(i:Int) < (m:Int):=by omega
   have hrun:(Go.part e a i).run P w=.ok (a.getD i undef) w:=by
    simp[Go.part,hag,hlt',Array.getD_eq_getD_getElem?]
   simp[Instr.index,asIntOf,run_underlying ht,hi1,h1,ZbN hi,hsz,hrun]
theorem Zi3(hτ:Zbs P τ){t:TypeId}{x ix:V}{out:Out}(h:Zgq τ t x ix=some out)(g:Z7 P E objs){c d:Value}(rx:Rep P E x c)(ri:Rep P E ix d):ZdH P (Instr.index t c d) E objs out:=by
 unfold Zgq at h
 split at h
 ·rename_i m e size bytes zero code hti
  split at h
  ·rename_i cs
   split at h
   ·rename_i k i
    have hd:=ri.int_inv
    subst hd
    split at h
    ·rename_i ei he
     split at h
     ·rename_i hc
      simp only[Bool.and_eq_true,Nat.blt_eq,Bool.not_eq_eq_eq_not,Bool.not_true] at hc
      obtain⟨⟨⟨h1,h2⟩,h3⟩,h4⟩:=hc
      split at h
      ·rename_i v hv
       cases h
       obtain⟨u,hr,hrun⟩:=ZqW hτ (k:=k) hti he h1 (Nat.eq_of_beq_eq_true h2) h3 h4 hv E.w rx
       exact .same g hrun hr
      ·cases h
     ·cases h
    ·cases h
   ·cases h
  ·cases h
 ·cases h
end
end Go.Proofs.YtgpdnmfpgkkgcaaGreatDoor
