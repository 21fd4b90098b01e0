/- Part of a proof that a law of the program holds for every input: how abstract states follow the program. No conditions. -/
import Derived.Below
import Derived.IntWalk
import Derived.KernelRfl
import Derived.Laws.AppendOwn
import Derived.Laws.BytesString
import Derived.Laws.MakeOwn
import Derived.Lib.AppendIntMem
import Derived.Lib.AppendStr
import Derived.OrdersIn
import Derived.RangeFuncLeaves
namespace Go.Proofs.YtldikbpclaeajaaGreatDoor
open Go
set_option linter.defProp false
def yP:=@if_neg
def yS:=@if_pos
def yT:=@List.getD_eq_getElem?_getD
def yU:=@List.length_append
def yW:=@Nat.eq_of_beq_eq_true
def yX:=@List.length_cons
def zA:=@List.take_length
def zB:=@Nat.le_refl
def zF:=@List.length_nil
def zG:=@List.length_take
def zH:=@Array.getD_eq_getD_getElem?
def zI:=@Go.run_underlying
def zK:=@List.getElem?_eq_getElem
def zL:=@List.length_map
def zM:=@List.mem_append
def zN:=@Bool.and_eq_true
def zP:=@List.getElem?_take
def zR:=@List.eq_nil_of_length_eq_zero
def zS:=@Go.Result.andThen_ok
def zT:=@Array.length_toList
def zU:=@Bool.not_true
def zV:=@Nat.le_trans
def zW:=@Nat.le_of_ble_eq_true
def zX:=@congrArg
def zY:=@Bool.false_eq_true
def ZAA:=@Option.map_eq_some_iff
def ZAD:=@List.length_replicate
def ZAF:=@List.length_drop
def ZAI:=@List.getElem?_map
def ZAJ:=@Nat.zero_add
def ZAK:=@List.map_cons
def ZAL:=@Go.Sem.run_bind
def ZAM:=@Ne.symm
def ZAN:=@Array.getElem?_eq_getElem
def ZAO:=@List.append_assoc
def ZAQ:=@Nat.mul_le_mul_right
def ZAR:=@Array.getElem?_toList
def ZAS:=@List.getElem?_append_right
def ZAV:=@List.getElem?_append_left
def ZAW:=@List.getElem?_eq_none
def ZAX:=@not_or
def ZAY:=@if_false
def ZAZ:=@List.ext_getElem?
def ZAd:=@Nat.succ_mul
def ZAe:=@Go.World.grownBy_alloc
def ZAg:=@List.foldl_cons
def ZAi:=@Go.Addr.add_lit
def ZAk:=@List.nil_append
def ZAl:=@Nat.zero_le
def ZAm:=@List.flatten_cons
def ZAn:=@Nat.lt_or_ge
def ZAo:=@Go.Sem.run_pure
def ZAr:=@Int.le_refl
def ZAs:=@List.getElem?_drop
def ZAt:=@Nat.ne_of_beq_eq_false
def ZAx:=@List.take_append_drop
def ZAy:=@List.size_toArray
def ZA0:=@Nat.lt_of_lt_of_le
def ZA3:=@List.take_of_length_le
def ZA4:=@if_true
def ZA5:=@Option.some.injEq
def ZA6:=@Nat.add_zero
def ZA7:=@Go.heap_alloc_new
def ZA8:=@Nat.mul_one
def ZBE:=@Go.size_zeroCells
def ZBI:=@List.mem_of_getElem?
def ZBK:=@List.drop_of_length_le
def ZBM:=@Prod.mk.injEq
def ZBQ:=@Nat.add_mul
def ZBR:=@Nat.le_succ
def ZBU:=@Array.size_append
def ZBW:=@List.drop_succ_cons
def ZBY:=@List.replicate_succ
def ZBc:=@Option.getD_some
def ZBg:=@List.cons.injEq
def ZBv:=@Array.eq_empty_of_size_eq_zero
def ZB1:=@Go.grownCap_le_maxLen
def ZB5:=@List.length_range
def ZB6:=@Go.run_storeCells_at
def ZCG:=@List.getElem?_range
def ZCH:=@List.take_succ_cons
def ZCI:=@List.length_set
def ZCK:=@Int.mul_comm
def ZCP:=@Nat.zero_mul
def ZCR:=@Iff.rfl
def ZCg:=@Int.natCast_mul
def ZCl:=@List.getElem?_set_ne
def ZCq:=@Array.toList_append
def ZCt:=@List.drop_zero
def ZCu:=@List.take_left
def ZCv:=@List.take_zero
def ZCx:=@Go.grownCap_ge
def ZCy:=@Nat.pos_of_ne_zero
def ZC0:=@Nat.add_assoc
def ZC3:=@List.getElem?_set
def ZC5:=@Array.ext'
def ZC6:=@Array.mapM_eq_mapM_toList
def ZDB:=@List.getElem_mem
def ZDQ:=@Go.setRow_heap
def ZDV:=@List.take_take
def ZDW:=@Go.growslice_fits
def ZDX:=@Array.getElem?_range
def ZDY:=@Array.toArray_toList
def ZDh:=@Array.foldl_toList
def ZDi:=@Array.getElem?_map
def ZDr:=@Nat.le_of_eq
set_option linter.unusedSimpArgs false
set_option linter.unusedVariables false
theorem Rj{α:Type}:∀(q:Ask α)(w:World),w.drawn≤(w.ask q).2.drawn
 |.done a,w=>by simp[World.ask]|.ask what range k,w=>by
  simp only[World.ask];split;·exact Rj _ _
  ·exact zV (ZBR _) (Rj _ {w with drawn:=w.drawn+1})
theorem vH(w:World)(c:Sys):w.drawn≤(w.sys c).2.drawn:=by
 have h:=Rj (Kernel.perform c w.os) w;unfold World.sys;split;·exact zB _
 ·rename_i r os w' he;rw[he]at h;exact h
theorem vY{p:Program}{w w':World}{a:Addr}{u:TypeId}{k:Addr}{v:Value}{at_:Bool}{l:List Addr}(h:w.viewStore p a u k v at_=.ok (w',l)):w'.drawn=w.drawn:=by
 simp only[World.viewStore,bind,Except.bind,pure,Except.pure]at h;repeat' split at h
 all_goals first|(cases h;rfl;done)|(cases h;done)|skip
theorem kQ{p:Program}{w w':World}{a:Addr}{v:Value}{b:Bool}{l:List Addr}(h:w.farStore p a v b=.ok (w',l)):w'.drawn=w.drawn:=by
 unfold World.farStore at h;split at h
 ·split at h;·rename_i r hr;cases h;exact vY hr
  ·cases h
 ·cases h
theorem Qu{α:Type}{p:Program}:∀(s:Sem α)(w:World)(a:α)(w':World),s.run p w=.ok a w'→w.drawn≤w'.drawn:=by intro s;induction s with
 |pure x=>intro w a w' h;simp only[Sem.run]at h;cases h;exact zB _|load m ad k ih=>
  intro w a w' h;simp only[Sem.run]at h;split at h;·exact ih _ _ _ _ h
  ·split at h;·exact ih _ _ _ _ h
   ·cases h|store m ad v k ih=>intro w a w' h;cases v<;>simp only[Sem.run]at h<;>first
   |(cases h;done)
   | (split at h
      ·split at h;·cases h
       ·exact ih (w.setCell ad _) _ _ h
      ·split at h;·rename_i w1 l1 hf;exact zV (ZDr (kQ hf).symm) (ih w1 _ _ h)
       ·cases h)
 |new o k ih=>intro w a w' h;simp only[Sem.run]at h;exact ih _ {w with heap:=w.heap.push o} _ _ h|shape r k ih=>intro w a w' h;simp only[Sem.run]at h;exact ih _ _ _ _ h|freeze ad n k ih=>
  intro w a w' h;simp only[Sem.run]at h;have :=ih (w.freeze ad n) _ _ h;have e:(w.freeze ad n).drawn=w.drawn:=by unfold World.freeze;split<;>rfl
  omega|frozen ad k ih=>intro w a w' h;simp only[Sem.run]at h;exact ih _ _ _ _ h|getObj r k ih=>
  intro w a w' h;simp only[Sem.run]at h;split at h;·cases h
  ·exact ih _ _ _ _ h
  ·cases h|setObj r o k ih=>
  intro w a w' h;simp only[Sem.run]at h;split at h;·cases h
  ·exact ih {w with heap:=w.heap.setIfInBounds r o} _ _ h
  ·cases h|choose q k ih=>
  intro w a w' h;simp only[Sem.run]at h;split at h;·exact ih _ _ _ _ h
  ·exact zV (ZBR _) (ih _ _ _ _ h)|sys c k ih=>intro w a w' h;simp only[Sem.run]at h;exact zV (vH w c) (ih _ _ _ _ h)|program k ih=>intro w a w' h;simp only[Sem.run]at h;exact ih _ _ _ _ h|mark m k ih=>intro w a w' h;simp only[Sem.run]at h;exact ih w _ _ h|halt h0=>intro w a w' h;simp only[Sem.run]at h;cases h
inductive Ty where|int(k:IntKind)|bool|str|sl(t:Ty)|pair(a b:Ty)|unit deriving DecidableEq
@[reducible]def Ty.den:Ty→Type|.int _=>Int|.bool=>Bool|.str=>ByteArray|.sl t=>List t.den|.pair a b=>a.den×b.den|.unit=>Unit
def Ty.size:Ty→Nat|.int _|.bool|.str|.sl _=>1|.pair a b=>a.size+b.size|.unit=>0
def Ty.dflt:(t:Ty)→t.den|.int _=>(0:Int)|.bool=>false|.str=>ByteArray.empty|.sl _=>[]|.pair a b=>(a.dflt,b.dflt)|.unit=>()
@[reducible]def BR:List Ty→Type|[]=>Unit|[t]=>t.den|t::u::l=>t.den×BR (u::l)
inductive V where|any|d(t:Ty)(x:t.den)|nilp|nilf|nils|nilm|fn(f:Fn)(fst caps:List V)|agg(cs:List V)|tup(vs:List V)|er(cs:List V)|ref(l off:Nat)|rref(l i off:Nat)|osl(l:Nat)|osp(l lo n:Nat)|map(l:Nat)|when(b:Bool)(v:V)|opt(b:Bool)(v:V)|pf(ts rs:List Ty)(pre:BR ts→Prop)(f:BR ts→BR rs)|yl(l:Nat)|bsl(l n:Nat)
def FL:(t:Ty)→t.den→List V|.int k,x=>[.d (.int k) x]|.bool,x=>[.d .bool x]|.str,x=>[.d .str x]|.sl t,x=>[.d (.sl t) x]|.pair a b,x=>FL a x.1++FL b x.2|.unit,_=>[]
theorem Pk:∀(t:Ty)(x:t.den),(FL t x).length=t.size|.int _,_|.bool,_|.str,_|.sl _,_|.unit,_=>rfl|.pair a b,x=>by simp only[FL,yU,Pk a,Pk b,Ty.size]
def BE(w:World)(S:Nat→Prop):(t:Ty)→t.den→List Value→Prop|.int k,n,cs=>cs=[.int k n]|.bool,b,cs=>cs=[.bool b]|.str,s,cs=>cs=[.string s]|.sl t,l,cs=>∃a c,cs=[.slice a (List.length (α:=t.den) l) c]∧(List.length (α:=t.den) l≤c∧c≤maxLen)∧(l≠([]:List t.den)→∃b off,a=some ⟨b,off,none⟩∧S b∧∀i(x:t.den),(l:List t.den)[i]?=some x→∃cs',BE w S t x cs'∧∀j u,cs'[j]?=some u→w.cell? ⟨b,off+i*t.size+j,none⟩=some u)|.pair a b,x,cs=>∃c1 c2,cs=c1++c2∧BE w S a x.1 c1∧BE w S b x.2 c2|.unit,_,cs=>cs=[]
theorem BE.length{w:World}{S:Nat→Prop}:∀{t:Ty}{x:t.den}{cs:List Value},BE w S t x cs→cs.length=t.size|.int _,_,_,h=>by rw[show _=_ from h];rfl|.bool,_,_,h=>by rw[show _=_ from h];rfl|.str,_,_,h=>by rw[show _=_ from h];rfl|.sl _,_,_,⟨_,_,h,_⟩=>by rw[h];rfl|.pair a b,_,_,⟨c1,c2,h,h1,h2⟩=>by rw[h,yU,h1.length,h2.length];rfl|.unit,_,_,h=>by rw[show _=_ from h];rfl
theorem BE.one{w:World}{S:Nat→Prop}:∀{t:Ty}{x:t.den}{cs:List Value},BE w S t x cs→∀u∈cs,u.oneCell'=true
 |.int _,_,_,h=>by rw[show _=_ from h];simp[Value.oneCell']|.bool,_,_,h=>by rw[show _=_ from h];simp[Value.oneCell']|.str,_,_,h=>by rw[show _=_ from h];simp[Value.oneCell']|.sl _,_,_,⟨_,_,h,_⟩=>by rw[h];simp[Value.oneCell']|.pair a b,_,_,⟨c1,c2,h,h1,h2⟩=>by
  rw[h];intro u hu;rcases List.mem_append.1 hu with hu|hu;·exact h1.one u hu
  ·exact h2.one u hu|.unit,_,_,h=>by rw[show _=_ from h];simp
theorem PI{w w':World}{b:Nat}(h:w'.heap[b]?=w.heap[b]?)(o:Nat):w'.cell? ⟨b,o,none⟩=w.cell? ⟨b,o,none⟩:=by simp only[World.cell?,h]
theorem BE.mono{w w':World}{S S':Nat→Prop}(hS:∀b,S b→S' b∧w'.heap[b]?=w.heap[b]?):∀{t:Ty}{x:t.den}{cs:List Value},BE w S t x cs→BE w' S' t x cs|.int _,_,_,h=>h|.bool,_,_,h=>h|.str,_,_,h=>h|.sl t,l,_,⟨a,c,h,hc,hl⟩=>⟨a,c,h,hc,λAb=>by obtain⟨b,off,ha,hb,hx⟩:=hl Ab;refine⟨b,off,ha,(hS b hb).1,λi x hi=>?_⟩;obtain⟨cs',h1,h2⟩:=hx i x hi;exact⟨cs',h1.mono hS,λj u hj=>(PI (hS b hb).2 _).trans (h2 j u hj)⟩⟩|.pair _ _,_,_,⟨c1,c2,h,h1,h2⟩=>⟨c1,c2,h,h1.mono hS,h2.mono hS⟩|.unit,_,_,h=>h
structure AU where
 b:Nat
 a:Option Addr:=none
 len:Nat:=0
 cap:Nat:=0
 esz:Nat:=0
def AU.v(L:AU):Value:=.slice L.a L.len L.cap
structure AH where
 w:World
 S:Nat→Prop
 loc:Nat→Option AU
def AU.Part(L:AU)(lo n:Nat)(c:Value):Prop:=∃a,c=.slice a n (L.cap-lo)∧(L.cap≠lo→a=L.a.map (·.add (lo*L.esz)))
def Jz(w:World)(S:Nat→Prop)(t:Ty)(x:t.den)(v:Value):Prop:=match t,x with|.pair a b,x=>∃cs:Array Value,v=.agg cs∧BE w S (.pair a b) x cs.toList|t,x=>BE w S t x [v]
def LI(w:World)(S:Nat→Prop):(ts:List Ty)→BR ts→List Value→Prop|[],_,vs=>vs=[]|[t],x,vs=>∃v,vs=[v]∧Jz w S t x v|t::u::l,x,vs=>∃v r,vs=v::r∧Jz w S t x.1 v∧LI w S (u::l) x.2 r
def RS(w:World)(S:Nat→Prop)(rs:List Ty)(x:BR rs)(v:Value):Prop:=match rs,x with|[],_=>v=.tuple #[]|[t],x=>Jz w S t x v|t::u::l,x=>∃vs:Array Value,v=.tuple vs∧LI w S (t::u::l) x vs.toList
structure G0(w:World)(S:Nat→Prop)(w':World)(S':Nat→Prop):Prop where
 drawn:w.drawn≤w'.drawn
 os:w'.os=w.os
 tape:w'.tape=w.tape
 output:w'.output=w.output
 size:w.heap.size≤w'.heap.size
 frame:∀b,b<w.heap.size→w'.heap[b]?=w.heap[b]?
 up:∀b,S b→S' b
 st:∀b,S' b→S b∨w.heap.size≤b
 lt:∀b,S' b→b<w'.heap.size
def Bz(P:Program)(f:FuncId):Prop:=∃fn,P.funcs[f]?=some fn∧fn.body.isSome=true∧(fn.name== "runtime.NumGoroutine")=false
def LM(P:Program)(w:World)(S:Nat→Prop):Prop:=∃b,S b∧∀w':World,w'.heap[b]?=w.heap[b]?→Lib.TabIs P w' "internal/strconv.uint64pow10" .u64 Lib.pow10Tab
theorem LM.mono{P:Program}{w w':World}{S S':Nat→Prop}(h:LM P w S)(hS:∀b,S b→S' b∧w'.heap[b]?=w.heap[b]?):LM P w' S':=by obtain⟨b,h1,h2⟩:=h;exact⟨b,(hS b h1).1,λw1 h3=>h2 w1 (h3.trans (hS b h1).2)⟩
structure DW(P:Program)(w:World)(S:Nat→Prop):Prop where
 lt:∀b,S b→b<w.heap.size
 tab:LM P w S
def O1(P:Program)(w:World)(S:Nat→Prop)(ts rs:List Ty)(pre:BR ts→Prop)(f:BR ts→BR rs)(c:Value):Prop:=∃(g:FuncId)(a b:Array Value),c=.func (.func g) a b∧Bz P g∧∀(w1:World)(S1:Nat→Prop),(∀k,S k→S1 k∧w1.heap[k]?=w.heap[k]?)→DW P w1 S1→∀xs,pre xs→∀cargs:Array Value,LI w1 S1 ts xs cargs.toList→Calls P g (a++cargs++b) w1 λe w2=>∃v S2,e=.returned v∧G0 w1 S1 w2 S2∧RS w2 S2 rs (f xs) v
theorem O1.mono{P:Program}{w w':World}{S S':Nat→Prop}{ts rs:List Ty}{pre:BR ts→Prop}{f:BR ts→BR rs}{c:Value}(hS:∀b,S b→S' b∧w'.heap[b]?=w.heap[b]?)(h:O1 P w S ts rs pre f c):O1 P w' S' ts rs pre f c:=by obtain⟨g,a,b,h1,h2,h3⟩:=h;exact⟨g,a,b,h1,h2,λw1 S1 hs=>h3 w1 S1 λk hk=>⟨(hs k (hS k hk).1).1,(hs k (hS k hk).1).2.trans (hS k hk).2⟩⟩
inductive Z(P:Program)(E:AH):V→Value→Prop where|any(v):Z P E .any v|d{t x v}:BE E.w E.S t x [v]→Z P E (.d t x) v|nilp:Z P E .nilp (.pointer none)|nilf:Z P E .nilf .nilFunc|nils(a):Z P E .nils (.slice a 0 0)|nilm:Z P E .nilm (.map none)|fn{f fs cs}{a b:Array Value}:a.size=fs.length→b.size=cs.length→(∀j,j<fs.length→Z P E (fs.getD j .any) (a.getD j undef))→(∀j,j<cs.length→Z P E (cs.getD j .any) (b.getD j undef))→Z P E (.fn f fs cs) (.func f a b)|agg{cs}{a:Array Value}:a.size=cs.length→(∀j,j<cs.length→Z P E (cs.getD j .any) (a.getD j undef))→Z P E (.agg cs) (.agg a)|tup{cs}{a:Array Value}:a.size=cs.length→(∀j,j<cs.length→Z P E (cs.getD j .any) (a.getD j undef))→Z P E (.tup cs) (.tuple a)|er{cs b off}(c:Nat→Value):E.S b→(∀j,j<cs.length→E.w.cell? ⟨b,off+j,none⟩=some (c j))→(∀j,j<cs.length→Z P E (cs.getD j .any) (c j))→Z P E (.er cs) (.pointer (some ⟨b,off,none⟩))|ref{l off L}:E.loc l=some L→Z P E (.ref l off) (.pointer (some ⟨L.b,off,none⟩))|rref{l i off L}:E.loc l=some L→Z P E (.rref l i off) (.pointer (some ⟨L.b,i*L.esz+off,none⟩))|osl{l L}:E.loc l=some L→Z P E (.osl l) L.v|osp{l lo n L c}:E.loc l=some L→L.Part lo n c→Z P E (.osp l lo n) c|map{l L}:E.loc l=some L→Z P E (.map l) (.map (some L.b))|when{b v x}:(b=true→Z P E v x)→(b=false→x=undef)→Z P E (.when b v) x|opt{b v x}:(b=true→Z P E v x)→(b=false→x=.pointer none)→Z P E (.opt b v) x|pf{ts rs pre f c}:O1 P E.w E.S ts rs pre f c→Z P E (.pf ts rs pre f) c|yl{l L}:E.loc l=some L→Z P E (.yl l) (.func (.yield L.b) #[] #[])|bsl{l n L}:E.loc l=some L→Z P E (.bsl l n) (.slice (some ⟨L.b,0,none⟩) n n)
structure Bv(E E':AH)(M:List Nat):Prop where
 S:∀b,E.S b→E'.S b∧E'.w.heap[b]?=E.w.heap[b]?
 loc:∀l L,l∉M→E.loc l=some L→E'.loc l=some L
theorem Bv.refl(E:AH)(M:List Nat):Bv E E M:=⟨λ_ h=>⟨h,rfl⟩,λ_ _ _ h=>h⟩
theorem Bv.trans{A B C:AH}{M M':List Nat}(h:Bv A B M)(k:Bv B C M'):Bv A C (M'++M):=⟨λb hb=>⟨(k.S b (h.S b hb).1).1,(k.S b (h.S b hb).1).2.trans (h.S b hb).2⟩,λl L hl hu=>by simp only[zM,ZAX]at hl;exact k.loc l L hl.1 (h.loc l L hl.2 hu)⟩
theorem Z.mono{P:Program}{E E':AH}(h:Bv E E' []){v:V}{c:Value}(r:Z P E v c):Z P E' v c:=by have hl:∀{l L},E.loc l=some L→E'.loc l=some L:=λk=>h.loc _ _ (by simp) k;induction r with|any v=>exact .any v|d hc=>exact .d (hc.mono h.S)|nilp=>exact .nilp|nilf=>exact .nilf|nils a=>exact .nils a|nilm=>exact .nilm|fn h1 h2 _ _ i1 i2=>exact .fn h1 h2 i1 i2|agg h1 _ i1=>exact .agg h1 i1|tup h1 _ i1=>exact .tup h1 i1|er c hb hc _ i=>exact .er c (h.S _ hb).1 (λj hj=>(PI (h.S _ hb).2 _).trans (hc j hj)) i|ref k=>exact .ref (hl k)|rref k=>exact .rref (hl k)|osl k=>exact .osl (hl k)|osp k kp=>exact .osp (hl k) kp|map k=>exact .map (hl k)|when _ h2 i1=>exact .when i1 h2|opt _ h2 i1=>exact .opt i1 h2|pf k=>exact .pf (k.mono h.S)|yl k=>exact .yl (hl k)|bsl k=>exact .bsl (hl k)
def V.isRef:V→Bool|.ref ..|.rref ..|.osl ..|.osp ..|.map ..|.yl _|.bsl ..=>true|_=>false
mutual
def V.subst(f:V→V):V→V|.fn g a b=>.fn g (C4 f a) (C4 f b)|.agg cs=>.agg (C4 f cs)|.tup cs=>.tup (C4 f cs)|.er cs=>.er (C4 f cs)|.when b v=>.when b (V.subst f v)|.opt b v=>.opt b (V.subst f v)|.ref l o=>f (.ref l o)|.rref l i o=>f (.rref l i o)|.osl l=>f (.osl l)|.osp l lo n=>f (.osp l lo n)|.map l=>f (.map l)|.yl l=>f (.yl l)|.bsl l n=>f (.bsl l n)|v=>v
def C4(f:V→V):List V→List V|[]=>[]|v::l=>V.subst f v::C4 f l
end
theorem Ie(f:V→V):∀l,C4 f l=l.map (V.subst f)|[]=>rfl|v::l=>by simp only[C4,Ie f l,ZAK]
theorem I6{f:V→V}{l:List V}{j:Nat}(hj:j<l.length):(C4 f l).getD j .any=(l.getD j .any).subst f:=by rw[Ie,yT,yT,ZAI,zK hj];rfl
theorem LF{P:Program}{E E':AH}{f:V→V}(hS:∀b,E.S b→E'.S b∧E'.w.heap[b]?=E.w.heap[b]?)(hf:∀v c,v.isRef=true→Z P E v c→Z P E' (f v) c){v:V}{c:Value}(r:Z P E v c):Z P E' (v.subst f) c:=by
 have len:∀l:List V,(C4 f l).length=l.length:=λl=>by rw[Ie,zL]
 induction r with|any v=>exact .any v|d hc=>exact .d (hc.mono hS)|nilp=>exact .nilp|nilf=>exact .nilf|nils a=>exact .nils a|nilm=>exact .nilm|fn h1 h2 h3 h4 i1 i2=>exact .fn (by rw[len];exact h1) (by rw[len];exact h2) (λj hj=>by rw[len]at hj;rw[I6 hj];exact i1 j hj) λj hj=>by rw[len]at hj;rw[I6 hj];exact i2 j hj|agg h1 h2 i1=>exact .agg (by rw[len];exact h1) λj hj=>by rw[len]at hj;rw[I6 hj];exact i1 j hj|tup h1 h2 i1=>exact .tup (by rw[len];exact h1) λj hj=>by rw[len]at hj;rw[I6 hj];exact i1 j hj|er c hb hc h3 i=>exact .er c (hS _ hb).1 (λj hj=>by rw[len]at hj;exact(PI (hS _ hb).2 _).trans (hc j hj)) λj hj=>by rw[len]at hj;rw[I6 hj];exact i j hj|ref k=>exact hf _ _ rfl (.ref k)|rref k=>exact hf _ _ rfl (.rref k)|osl k=>exact hf _ _ rfl (.osl k)|osp k kp=>exact hf _ _ rfl (.osp k kp)|map k=>exact hf _ _ rfl (.map k)|when h1 h2 i1=>exact .when i1 h2|opt h1 h2 i1=>exact .opt i1 h2|pf k=>exact .pf (k.mono hS)|yl k=>exact hf _ _ rfl (.yl k)|bsl k=>exact hf _ _ rfl (.bsl k)
inductive RJ where|no|ret|exit(id:Nat)
def RJ.code:RJ→Option Code|.no=>none|.ret=>some .ret|.exit id=>some (.exit id)
inductive Obj where|dead|box(cs:List V)|row(t:Ty)(l:List t.den)|vrow(t:Ty)(l:List (List t.den))(s:List V)(m:Nat)|smap(t:Ty)(m:ByteArray→Option t.den)|imap(t:Ty)(m:Int→Option t.den)|lrec(nt:Nat)(tmps:List (Nat×V))(params:List Nat)(assign body:Code)(st:LoopState)(j:RJ)|dfb
abbrev AF:=List (Nat×Obj)
def AA(l:Nat):AF→Option Obj|[]=>none|(k,o)::r=>match Nat.beq k l with|true=>some o|false=>AA l r
theorem Ay(k l:Nat)(o:Obj)(r:AF):AA l ((k,o)::r)=if k=l then some o else AA l r:=by
 simp only[AA];split;·rename_i h;rw[yS (yW h)]
 ·rename_i h;rw[yP (ZAt h)]
def Aq(w:World)(S:Nat→Prop)(t:Ty):List t.den→List Value→Prop|[],cs=>cs=[]|x::l,cs=>∃c1 c2,cs=c1++c2∧BE w S t x c1∧Aq w S t l c2
theorem Aq.mono{w w':World}{S S':Nat→Prop}{t:Ty}(hS:∀b,S b→S' b∧w'.heap[b]?=w.heap[b]?):∀{l:List t.den}{cs:List Value},Aq w S t l cs→Aq w' S' t l cs|[],_,h=>h|_::_,_,⟨c1,c2,h,h1,h2⟩=>⟨c1,c2,h,h1.mono hS,h2.mono hS⟩
theorem Aq.length{w:World}{S:Nat→Prop}{t:Ty}:∀{l:List t.den}{cs:List Value},Aq w S t l cs→cs.length=l.length*t.size|[],_,h=>by rw[show _=_ from h];simp|_::l,_,⟨c1,c2,h,h1,h2⟩=>by rw[h,yU,h1.length,h2.length,yX,ZAd];omega
theorem Aq.append{w:World}{S:Nat→Prop}{t:Ty}:∀{l l':List t.den}{cs cs':List Value},Aq w S t l cs→Aq w S t l' cs'→Aq w S t (l++l') (cs++cs')|[],_,_,_,h,h'=>by rw[show _=_ from h];simpa using h'|_::_,_,_,_,⟨c1,c2,h,h1,h2⟩,h'=>⟨c1,c2++_,by rw[h,ZAO],h1,h2.append h'⟩
theorem Aq.one{w:World}{S:Nat→Prop}{t:Ty}:∀{l:List t.den}{cs:List Value},Aq w S t l cs→∀u∈cs,u.oneCell'=true
 |[],_,h=>by rw[show _=_ from h];simp|_::_,_,⟨c1,c2,h,h1,h2⟩=>by
  rw[h];intro u hu;rcases List.mem_append.1 hu with hu|hu;·exact h1.one u hu
  ·exact h2.one u hu
theorem Aq.get{w:World}{S:Nat→Prop}{t:Ty}:∀{l:List t.den}{cs:List Value},Aq w S t l cs→∀(i:Nat)(x:t.den),l[i]?=some x→∃c,BE w S t x c∧∀j u,c[j]?=some u→cs[i*t.size+j]?=some u|[],_,_,i,x,h=>by simp at h|y::l,cs,⟨c1,c2,h,h1,h2⟩,0,x,hx=>by simp at hx;subst hx;refine⟨c1,h1,λj u hj=>?_⟩;rw[h,ZCP,ZAJ,ZAV (by have :=(List.getElem?_eq_some_iff.1 hj).1;exact this)];exact hj|y::l,cs,⟨c1,c2,h,h1,h2⟩,i+1,x,hx=>by obtain⟨c,hc,hj⟩:=h2.get i x (by simpa using hx);refine⟨c,hc,λj u hu=>?_⟩;have YB:=h1.length;rw[h,ZAS (by rw[YB,ZAd];omega)];rw[show(i+1)*t.size+j-c1.length=i*t.size+j from by rw[YB,ZAd];omega];exact hj j u hu
theorem Aq.of_get{w:World}{S:Nat→Prop}{t:Ty}:∀{l:List t.den}{cs:List Value},cs.length=l.length*t.size→(∀(i:Nat)(x:t.den),l[i]?=some x→∃c,BE w S t x c∧∀j u,c[j]?=some u→cs[i*t.size+j]?=some u)→Aq w S t l cs
 |[],cs,h,_=>zR (by simpa using h)|x::l,cs,h,hg=>by
  obtain⟨c,hc,hj⟩:=hg 0 x rfl;have hcl:=hc.length;have hle:t.size≤cs.length:=by rw[h,yX,ZAd];omega
  have e:cs.take t.size=c:=by
   apply ZAZ;intro j;rw[zP];split;·rename_i AY;have :=hj j c[j] (zK (by omega));rw[zK (by omega:j<c.length)];simpa using this
   ·rw[ZAW (by omega)]
  refine⟨c,cs.drop t.size,by rw[←e,ZAx],hc,Aq.of_get (by rw[ZAF,h,yX,ZAd];omega) λi y hy=>?_⟩;obtain⟨c',hc',hj'⟩:=hg (i+1) y (by simpa using hy);refine⟨c',hc',λj u hu=>?_⟩;rw[ZAs,show t.size+(i*t.size+j)=(i+1)*t.size+j from by rw[ZAd];omega];exact hj' j u hu
theorem Gx{α:Type}{A vs:List α}{o:Nat}(h:o+vs.length≤A.length)(k:Nat):(A.take o++vs++A.drop (o+vs.length))[k]?=if k<o then A[k]? else if k<o+vs.length then vs[k-o]? else A[k]?:=by
 have pN:(A.take o).length=o:=by simp;omega
 split;·rw[ZAO,ZAV (by omega),zP,yS ‹_›]
 ·split;·rw[ZAV (by simp;omega),ZAS (by omega),pN]
  ·rw[ZAS (by simp;omega),ZAs];congr 1;simp;omega
def I1{κ:Type}(f:κ→Value)(w:World)(S:Nat→Prop)(t:Ty)(m:κ→Option t.den)(es:Array MapEntry):Prop:=(∀e∈es.toList,∃k x,e.key=f k∧m k=some x∧BE w S t x [e.val])∧(∀k x,m k=some x→∃e∈es.toList,e.key=f k)∧(es.toList.map λe=>e.key).Nodup
abbrev uM(w:World)(S:Nat→Prop)(t:Ty)(m:ByteArray→Option t.den)(es:Array MapEntry):Prop:=I1 Value.string w S t m es
abbrev qH(w:World)(S:Nat→Prop)(t:Ty)(m:Int→Option t.den)(es:Array MapEntry):Prop:=I1 (Value.int .i64) w S t m es
theorem I1.mono{κ:Type}{f:κ→Value}{w w':World}{S S':Nat→Prop}{t:Ty}{m:κ→Option t.den}{es:Array MapEntry}(h:I1 f w S t m es)(hS:∀b,S b→S' b∧w'.heap[b]?=w.heap[b]?):I1 f w' S' t m es:=⟨λe he=>let⟨k,x,h1,h2,h3⟩:=h.1 e he;⟨k,x,h1,h2,h3.mono hS⟩,h.2⟩
def AW(t:Nat):List (Nat×V)→V|[]=>.any|(u,v)::r=>match Nat.beq u t with|true=>v|false=>AW t r
theorem CC(u t:Nat)(v:V)(l:List (Nat×V)):AW t ((u,v)::l)=if u=t then v else AW t l:=by
 simp only[AW];split;·rename_i h;rw[yS (yW h)]
 ·rename_i h;rw[yP (ZAt h)]
def Aj(P:Program)(E:AH)(L:AU):Obj→Prop|.dead=>True|.box cs=>∃vals t,E.w.heap[L.b]?=some (.cells vals t (0,0))∧vals.size=cs.length∧∀j,j<cs.length→Z P E (cs.getD j .any) (vals.getD j undef)|.row t xs=>L.esz=t.size∧0<t.size∧L.len=xs.length∧∃e cs,Aq E.w E.S t xs cs∧( L.cap=0∧xs=[]∨∃cur,L.a=some ⟨L.b,0,none⟩∧E.w.heap[L.b]?=some (.cells cur e (0,0))∧xs.length≤L.cap∧0<L.cap∧L.cap≤maxLen∧cur.size=L.cap*t.size∧cur.toList.take (xs.length*t.size)=cs)|.vrow t xs s m=>L.esz=1∧s.length≤1∧L.len=xs.length+s.length+m∧∃e cs,Aq E.w E.S (.sl t) xs cs∧( L.cap=0∧L.len=0∨∃cur,L.a=some ⟨L.b,0,none⟩∧E.w.heap[L.b]?=some (.cells cur e (0,0))∧L.len≤L.cap∧0<L.cap∧L.cap≤maxLen∧cur.size=L.cap∧cur.toList.take xs.length=cs∧(∀j,j<s.length→Z P E (s.getD j .any) (cur.getD (xs.length+j) undef))∧∀i,xs.length+s.length≤i→i<L.len→cur[i]?=some (.slice none 0 0))|.smap t m=>∃es clock,E.w.heap[L.b]?=some (.map es clock)∧uM E.w E.S t m es|.imap t m=>∃es clock,E.w.heap[L.b]?=some (.map es clock)∧qH E.w E.S t m es|.lrec nt tmps params assign body st j=>∃r:Loop,E.w.heap[L.b]?=some (.loop r)∧r.tmps.size=nt∧(∀t,Z P E (AW t tmps) (r.tmps.getD t undef))∧r.params.toList=params∧r.assign=assign∧r.body=body∧r.state=st∧r.pending=j.code|.dfb=>E.w.heap[L.b]?=some (.deferred (some []))
def Obj.has(o:Obj)(L:AU):Prop:=match o with|.dead=>False|.row ..|.vrow ..=>L.cap≠0|_=>True
def Cd(E:AH)(objs:AF)(b:Nat):Prop:=∃l o L,AA l objs=some o∧E.loc l=some L∧o.has L∧L.b=b
structure AC(P:Program)(E:AH)(objs:AF):Prop where
 at_:∀l o,AA l objs=some o→∃L,E.loc l=some L∧Aj P E L o
 ns:∀b,Cd E objs b→¬E.S b
 sl:∀b,E.S b→b<E.w.heap.size
 tab:LM P E.w E.S
 inj:∀l l' o o' L L',AA l objs=some o→AA l' objs=some o'→E.loc l=some L→E.loc l'=some L'→o.has L→o'.has L'→L.b=L'.b→l=l'
structure BF(E0:AH)(imp:AF)(E:AH)(objs:AF)(M:List Nat):Prop where
 ext:Bv E0 E M
 os:E.w.os=E0.w.os
 tape:E.w.tape=E0.w.tape
 output:E.w.output=E0.w.output
 size:E0.w.heap.size≤E.w.heap.size
 frame:∀b,b<E0.w.heap.size→¬Cd E0 imp b→E.w.heap[b]?=E0.w.heap[b]?
 own:∀b,Cd E objs b→E0.w.heap.size≤b∨Cd E0 imp b
 st:∀b,E.S b→E0.S b∨E0.w.heap.size≤b∨Cd E0 imp b
 keys:∀l,AA l objs=none→AA l imp=none
 dom:∀l,AA l objs=none→E.loc l=E0.loc l
theorem BF.refl(E:AH)(objs:AF)(M:List Nat):BF E objs E objs M:=⟨.refl _ _,rfl,rfl,rfl,zB _,λ_ _ _=>rfl,λ_ h=>.inr h,λ_ h=>.inl h,λ_ h=>h,λ_ _=>rfl⟩
theorem BF.trans{E0 E1 E2:AH}{o0 o1 o2:AF}{M M':List Nat}(h:BF E0 o0 E1 o1 M)(k:BF E1 o1 E2 o2 M'):BF E0 o0 E2 o2 (M'++M):=⟨h.ext.trans k.ext,k.os.trans h.os,k.tape.trans h.tape,k.output.trans h.output,zV h.size k.size,λb hb hn=>(k.frame b (ZA0 hb h.size) λho=>(h.own b ho).elim λh'=>by omega hn).trans (h.frame b hb hn),λb hb=>(k.own b hb).elim (λh'=>.inl (zV h.size h')) (h.own b),λb hb=>(k.st b hb).elim (h.st b) λh'=>h'.elim (λh'=>.inr (.inl (zV h.size h'))) λh'=>.inr (h.own b h'),λl hl=>h.keys l (k.keys l hl),λl hl=>(k.dom l hl).trans (h.dom l (k.keys l hl))⟩
theorem Aj.block_lt{P:Program}{E:AH}{L:AU}{o:Obj}(h:Aj P E L o)(hh:o.has L):L.b<E.w.heap.size:=by cases o with
 |dead=>exact hh.elim|box cs=>obtain⟨vals,t,hb,_⟩:=h;exact(Array.getElem?_eq_some_iff.1 hb).1|row t xs=>
  obtain⟨_,_,_,e,cs,_,h|⟨cur,_,hb,_⟩⟩:=h;·exact absurd h.1 hh
  ·exact(Array.getElem?_eq_some_iff.1 hb).1|vrow t xs s m=>
  obtain⟨_,_,_,e,cs,_,h|⟨cur,_,hb,_⟩⟩:=h;·exact absurd h.1 hh
  ·exact(Array.getElem?_eq_some_iff.1 hb).1|smap t m=>obtain⟨es,c,hb,_⟩:=h;exact(Array.getElem?_eq_some_iff.1 hb).1|imap t m=>obtain⟨es,c,hb,_⟩:=h;exact(Array.getElem?_eq_some_iff.1 hb).1|lrec=>obtain⟨r,hb,_⟩:=h;exact(Array.getElem?_eq_some_iff.1 hb).1|dfb=>exact(Array.getElem?_eq_some_iff.1 h).1
theorem AC.sok{P:Program}{E:AH}{objs:AF}(g:AC P E objs):DW P E.w E.S:=⟨g.sl,g.tab⟩
theorem AC.own_lt{P:Program}{E:AH}{objs:AF}(h:AC P E objs){b:Nat}(hb:Cd E objs b):b<E.w.heap.size:=by obtain⟨l,o,L,ho,hL,hh,rfl⟩:=hb;obtain⟨L',hL',ha⟩:=h.at_ l o ho;rw[hL]at hL';cases hL';exact ha.block_lt hh
inductive TK where|int(k:IntKind)|bool|str|sl(e:TypeId)|arr(n:Nat)(e:TypeId)|st(offs:List (Nat×Nat))|ptr|map(k e:TypeId)|fn|other
structure TI where
 k:TK
 size:Nat
 bytes:Nat
 zero:List Value
 code:Option Ty
def TK.known:TK→Bool|.other=>false|_=>true
def TI.isAgg(i:TI):Bool:=match i.k with|.arr ..|.st _=>true|_=>false
structure TI.Ok(P:Program)(t:TypeId)(i:TI):Prop where
 info:∃info z,P.info? t=some info∧info.size=i.size∧info.bytes=i.bytes∧info.zero=some z∧z.cells.toList=i.zero∧z.cells.size=i.size
 kind:match i.k with|.int k=>P.underlying t=some (.int k)|.bool=>P.underlying t=some .bool|.str=>P.underlying t=some .string|.sl e=>P.underlying t=some (.slice e)|.arr n e=>P.underlying t=some (.array n e)∧∃ie ze,P.info? e=some ie∧ie.zero=some ze∧i.zero=(List.replicate n ze.cells.toList).flatten∧i.size=n*ie.size∧0<n∧n≤9223372036854775807∧0<ie.size|.st offs=>∃fs,P.underlying t=some (.struct fs)∧fs.toList.map (λf=>(f.offset,P.cellsOf f.type))=offs∧∀p∈offs,p.2≠0|.ptr=>∃e,P.underlying t=some (.pointer e)|.map k e=>P.underlying t=some (.map k e)∧∃ie ze,P.info? e=some ie∧ie.zero=some ze∧ze.oneCell'=true|.fn=>∃ps rs v,P.underlying t=some (.func ps rs v)|.other=>True
 code:∀T,i.code=some T→T.size=i.size∧0<i.size∧∀w S,BE w S T T.dflt i.zero
abbrev Ad:=TypeId→Option TI
def A6(P:Program)(τ:Ad):Prop:=∀t i,τ t=some i→i.Ok P t
def RF:Value→V
 |.int k n=>.d (.int k) n|.bool b=>.d .bool b|.string s=>.d .str s|.slice none 0 0=>.nils|.pointer none=>.nilp|.nilFunc=>.nilf|.map none=>.nilm|.tuple vs=>match vs.toList with|[]=>.tup []|_=>.any
 |_=>.any
def Af(tmps:List (Nat×V)):Operand→V|.tmp t=>AW t tmps|.const c=>RF c|.func f=>.fn (.func f) [] []|.global _=>.any
def V.solid:V→Bool|.any|.when ..|.tup _|.agg _=>false|.opt _ v=>v.solid|_=>true
def O5:List V→Bool|[]=>true|v::l=>match v.solid with|true=>O5 l|false=>false
def V.scells:V→Option (List V)
 |.agg cs=>match O5 cs with|true=>some cs|false=>none
 |v=>match v.solid with|true=>some [v]|false=>none
def Mt(T:Ty):V→Option (List T.den)|.d (.sl t) l=>if h:t=T then some (h▸l)else none|.nils=>some []|_=>none
def QM:IntKind→IntKind→Bool|.i8,.i8=>true|.i16,.i16=>true|.i32,.i32=>true|.i64,.i64=>true|.u8,.u8=>true|.u16,.u16=>true|.u32,.u32=>true|.u64,.u64=>true|_,_=>false
def Uw(k:IntKind):List V→Option Int
 |[.d (.int k') n]=>match QM k' k with|true=>some n|false=>none
 |_=>none
def Uv:List V→Option Bool|[.d .bool b]=>some b|_=>none
def Ux:List V→Option ByteArray|[.d .str s]=>some s|_=>none
def aY(t:Ty):List V→Option (List t.den)|[v]=>Mt t v|_=>none
def aZ:List V→Option Unit|[]=>some ()|_=>none
def Ej:(T:Ty)→List V→Option T.den
 |.int k,cs=>Uw k cs|.bool,cs=>Uv cs|.str,cs=>Ux cs|.sl t,cs=>aY t cs|.pair a b,cs=>match Ej a (cs.take a.size)with
  |some x=>match Ej b (cs.drop a.size)with|some y=>some (x,y)|none=>none
  |none=>none
 |.unit,cs=>aZ cs
def A0:Option Prop→Prop|none=>True|some p=>p
structure Ah where
 ob:Option Prop
 v:V
 ed:Option (Nat×Obj×Bool)
def V.key:V→Option Nat|.ref l _|.rref l _ _|.osl l|.osp l _ _|.map l|.yl l|.bsl l _=>some l|_=>none
def Ca(l:Nat)(v:V):V:=match v.key with
 |some k=>match Nat.beq k l with|true=>.any|false=>v
 |none=>v
def Obj.subst(f:V→V):Obj→Obj|.box cs=>.box (C4 f cs)|.vrow t xs s m=>.vrow t xs (C4 f s) m|.lrec nt tmps ps a b st j=>.lrec nt (tmps.map λp=>(p.1,p.2.subst f)) ps a b st j|o=>o
def substO(f:V→V):AF→AF|[]=>[]|(k,o)::r=>(k,o.subst f)::substO f r
def edit(objs:AF):Option (Nat×Obj×Bool)→AF|none=>objs|some (l,o,false)=>(l,o)::objs|some (l,o,true)=>(l,o)::substO (Ca l) objs
def moved:Option (Nat×Obj×Bool)→List Nat|some (l,_,true)=>[l]|_=>[]
def Jj(agg:Bool)(cs:List V):Option V:=match agg with|true=>some (.agg cs)|false=>match cs with|[v]=>some v|_=>none
def I8:Nat→List V→Option (List V)
 |0,_=>some []|n+1,v::l=>match I8 n l with|some r=>some (v::r)|none=>none
 |_+1,[]=>none
def Hf:Nat→List V→List V|0,l=>l|n+1,_::l=>Hf n l|_+1,[]=>[]
def putCells(cs:List V)(off:Nat)(new:List V):Option (List V):=match Nat.ble (off+new.length) cs.length with|true=>some (cs.take off++(new++Hf (off+new.length) cs))|false=>none
def Sa(τ:Ad)(os:AF)(t:TypeId)(v:V):Option Ah:=match τ t with|none=>none|some ti=>match ti.k.known with|false=>none|true=>match v with
 |.ref l off=>match AA l os with
  |some (.box cs)=>match I8 ti.size (Hf off cs)with
   |some ds=>match Jj ti.isAgg ds with|some v=>some ⟨none,v,none⟩|none=>none
   |none=>none
  |_=>none
 |.er cs=>match I8 ti.size cs with
  |some ds=>match Jj ti.isAgg ds with|some v=>some ⟨none,v,none⟩|none=>none
  |none=>none
 |.rref l i off=>match AA l os with
  |some (.row T xs)=>match I8 ti.size (Hf off (FL T (xs.getD i T.dflt)))with
   |some ds=>match Jj ti.isAgg ds with|some v=>some ⟨some (i<xs.length),v,none⟩|none=>none
   |none=>none
  |some (.vrow _ xs s _)=>match s with
   |[v]=>match Nat.beq off 0&&Nat.beq ti.size 1 with
    |true=>match Jj ti.isAgg [v]with|some v=>some ⟨some (i=xs.length),v,none⟩|none=>none
    |false=>none
   |_=>none
  |_=>none
 |_=>none
def Ml(T:Ty):Nat→List V→Option (List T.den)|0,[]=>some []|0,_=>none|n+1,cs=>match Ej T (cs.take T.size)with
 |some x=>match Ml T n (cs.drop T.size)with
  |some l=>match Nat.beq (cs.take T.size).length T.size with|true=>some (x::l)|false=>none
  |none=>none
 |none=>none
def Si(τ:Ad)(os:AF)(t:TypeId)(a x:V):Option Ah:=match τ t with|none=>none|some ti=>match x.scells with|none=>none|some new=>match Nat.beq new.length ti.size with|false=>none|true=>match a with
 |.ref l off=>match AA l os with
  |some (.box cs)=>match putCells cs off new with|some cs'=>some ⟨none,.tup [],some (l,.box cs',false)⟩|none=>none
  |_=>none
 |.rref l i off=>match AA l os with
  |some (.row T xs)=>match ti.k with
   |.arr n _=>match Nat.beq i 0&&Nat.beq off 0 with
    |true=>match Ml T n new with|some ys=>some ⟨some (n=xs.length),.tup [],some (l,.row T ys,false)⟩|none=>none
    |false=>none
   |_=>match putCells (FL T (xs.getD i T.dflt)) off new with
    |some cs=>match Ej T cs with|some y=>some ⟨some (i<xs.length),.tup [],some (l,.row T (xs.set i y),false)⟩|none=>none
    |none=>none
  |some (.vrow T xs s m)=>match s with
   |[_]=>match new with
    |[v]=>match Nat.beq off 0 with|true=>some ⟨some (i=xs.length),.tup [],some (l,.vrow T xs [v] m,false)⟩|false=>none
    |_=>none
   |_=>none
  |_=>none
 |_=>none
def SV(τ:Ad)(os:AF)(s:TypeId)(v:V)(f:Nat):Option Ah:=match τ s with
 |some ⟨.st offs,_,_,_,_⟩=>match offs[f]? with
  |some (o,_)=>match v with|.ref l off=>some ⟨none,.ref l (off+o),none⟩|.er cs=>some ⟨none,.er (Hf o cs),none⟩|.rref l i off=>some ⟨none,.rref l i (off+o),none⟩|_=>none
  |none=>none
 |_=>none
def SX(τ:Ad)(os:AF)(t:TypeId)(x ix:V):Option Ah:=match τ t with
 |some ⟨.sl e,_,_,_,_⟩=>match ix with
  |.d (.int _) i=>match τ e with
   |some ei=>match x with
    |.d (.sl T) l=>match Nat.beq T.size ei.size with|true=>some ⟨some (0≤i∧i<(List.length (α:=T.den) l:Int)),.er (FL T (List.getD (α:=T.den) l i.toNat T.dflt)),none⟩|false=>none
    |.osl l=>match AA l os with
     |some (.row T xs)=>match Nat.beq T.size ei.size with|true=>some ⟨some (0≤i∧i<(xs.length:Int)),.rref l i.toNat 0,none⟩|false=>none
     |some (.vrow _ xs s m)=>match Nat.beq ei.size 1 with
      |true=>match s with|[]=>none|_::_=>some ⟨some (0≤i∧i<((xs.length+1+m:Nat):Int)),.rref l i.toNat 0,none⟩
      |false=>none
     |_=>none
    |.osp l lo n=>match AA l os with
     |some (.row T xs)=>match Nat.beq T.size ei.size with|true=>some ⟨some (0≤i∧i<(n:Int)∧lo+n≤xs.length),.rref l (lo+i.toNat) 0,none⟩|false=>none
     |_=>none
    |.bsl l n=>match i with
     |.ofNat i=>match Nat.blt i n&&Nat.beq ei.size 1 with|true=>some ⟨none,.ref l i,none⟩|false=>none
     |_=>none
    |.nils=>match ei.code with|some T=>some ⟨some False,.er (FL T T.dflt),none⟩|none=>none
    |_=>none
   |none=>none
  |_=>none
 |some ⟨.arr n e,_,_,_,_⟩=>match ix with
  |.d (.int _) i=>match τ e with
   |some ei=>match x with
    |.rref l 0 0=>match AA l os with
     |some (.row T xs)=>match Nat.beq T.size ei.size with|true=>some ⟨some (0≤i∧i<(n:Int)),.rref l i.toNat 0,none⟩|false=>none
     |_=>none
    |_=>none
   |none=>none
  |_=>none
 |_=>none
def AB:IntKind→Int→Prop|.i8,n=>-128≤n∧n≤127|.i16,n=>-32768≤n∧n≤32767|.i32,n=>-2147483648≤n∧n≤2147483647|.i64,n=>-9223372036854775808≤n∧n≤9223372036854775807|.u8,n=>0≤n∧n≤255|.u16,n=>0≤n∧n≤65535|.u32,n=>0≤n∧n≤4294967295|.u64,n=>0≤n∧n≤18446744073709551615
def wr(k:IntKind)(n:Int):Ah:=match k.signed with|true=>⟨some (AB k n),.d (.int k) n,none⟩|false=>⟨none,.d (.int k) (k.wrap n),none⟩
def Mn(k:IntKind)(p:Prop)(n:Int):Ah:=match k.signed with|true=>⟨some (p∧AB k n),.d (.int k) n,none⟩|false=>⟨some p,.d (.int k) (k.wrap n),none⟩
def wG(τ:Ad):Bool:=match τ 1 with|some _=>false|none=>true
def Ov(wm:Bool)(k:IntKind)(n:Int):Ah:=match wm with|true=>⟨none,.d (.int k) (k.wrap n),none⟩|false=>wr k n
def SY(wm:Bool)(op:BinOp)(k:IntKind)(a b:Int):Option Ah:=match op with|.add=>some (Ov wm k (a+b))|.sub=>some (wr k (a-b))|.mul=>some (wr k (a*b))|.quo=>some (Mn k (b≠0) (a.tdiv b))|.rem=>some ⟨some (b≠0),.d (.int k) (a.tmod b),none⟩|.eql=>some ⟨none,.d .bool (a==b),none⟩|.neq=>some ⟨none,.d .bool (a !=b),none⟩|.lss=>some ⟨none,.d .bool (decide (a<b)),none⟩|.leq=>some ⟨none,.d .bool (decide (a≤b)),none⟩|.gtr=>some ⟨none,.d .bool (decide (b<a)),none⟩|.geq=>some ⟨none,.d .bool (decide (b≤a)),none⟩|.and=>some ⟨none,.d (.int k) (k.wrap ((BitVec.ofInt k.bits a&&&BitVec.ofInt k.bits b).toNat:Int)),none⟩|.or=>some ⟨none,.d (.int k) (k.wrap ((BitVec.ofInt k.bits a|||BitVec.ofInt k.bits b).toNat:Int)),none⟩|_=>none
def NC(op:BinOp)(b:Bool):Option Ah:=match op with|.eql=>some ⟨none,.d .bool b,none⟩|.neq=>some ⟨none,.d .bool !b,none⟩|_=>none
def SL(τ:Ad)(op:BinOp)(xt:TypeId)(x y:V):Option Ah:=match x with
 |.d (.int k) a=>match y with
  |.d (.int k') b=>match op with|.shl=>some ⟨some (0≤b),.d (.int k) (k.wrap (a*2^min b.toNat k.bits)),none⟩|.shr=>some ⟨some (0≤b),.d (.int k) (a.fdiv (2^min b.toNat k.bits)),none⟩|op=>match QM k k' with|true=>SY (wG τ) op k a b|false=>none
  |_=>none
 |.d .bool a=>match y with
  |.d .bool b=>match τ xt with
   |some ⟨.bool,_,_,_,_⟩=>match op with|.eql=>some ⟨none,.d .bool (a==b),none⟩|.neq=>some ⟨none,.d .bool (a !=b),none⟩|_=>none
   |_=>none
  |_=>none
 |p=>match y with
  |.nilp=>match τ xt with
   |some ⟨.ptr,_,_,_,_⟩=>match p with|.nilp=>NC op true|.er _=>NC op false|.opt b (.er _)=>NC op !b|_=>none
   |_=>none
  |_=>none
def Sj(op:UnOp)(x:V):Option Ah:=match op with
 |.neg=>match x with|.d (.int k) n=>some (wr k (-n))|_=>none
 |.not=>match x with|.d .bool b=>some ⟨none,.d .bool !b,none⟩|_=>none
 |_=>none
def Ib(s:ByteArray):List Int:=s.data.toList.map λb=>(b.toNat:Int)
def B6(l:List Int):ByteArray:=⟨(l.map λn=>UInt8.ofNat n.toNat).toArray⟩
def Q2(T:Ty)(os:AF):V→Option (List T.den×Option Prop)
 |.osl l=>match AA l os with|some (.row t xs)=>if h:t=T then some (h▸xs,none)else none|_=>none
 |.osp l lo n=>match AA l os with|some (.row t xs)=>if h:t=T then some (((h▸xs:List T.den).drop lo).take n,some (lo+n≤xs.length))else none|_=>none
 |v=>match Mt T v with|some l=>some (l,none)|none=>none
def Vc(T:Ty)(os:AF):V→Option (List T.den×Option Prop)
 |.d .str s=>match T with|.int .u8=>some (Ib s,none)|_=>none
 |v=>Q2 T os v
def SR(τ:Ad)(os:AF)(src dst:TypeId)(x:V):Option Ah:=match τ src with
 |some ⟨.int _,_,_,_,_⟩=>match τ dst with
  |some ⟨.int k,_,_,_,_⟩=>match x with|.d (.int _) n=>some (wr k n)|_=>none
  |_=>none
 |some ⟨.sl e,_,_,_,_⟩=>match τ dst with
  |some ⟨.str,_,_,_,_⟩=>match τ e with
   |some ⟨.int .u8,_,_,_,_⟩=>match x with
    |.osl l=>match AA l os with|some (.row (.int .u8) xs)=>some ⟨none,.d .str (B6 xs),none⟩|_=>none
    |.nils=>some ⟨none,.d .str ByteArray.empty,none⟩|_=>none
   |_=>none
  |_=>none
 |_=>none
def Jx:List Value→List V|[]=>[]|v::l=>RF v::Jx l
def SK(τ:Ad)(n:Nat)(t:TypeId):Option Ah:=match τ t with
 |some ⟨.arr m e,_,_,zero,_⟩=>match τ e with|some ⟨_,_,_,_,some T⟩=>some ⟨none,.rref n 0 0,some (n,.row T (List.replicate m T.dflt),false)⟩|some ⟨_,_,_,_,none⟩=>some ⟨none,.ref n 0,some (n,.box (Jx zero),false)⟩|none=>none
 |some ⟨_,_,_,zero,_⟩=>some ⟨none,.ref n 0,some (n,.box (Jx zero),false)⟩|none=>none
def SM(n:Nat)(x:V):Option Ah:=match x.scells with|some cs=>some ⟨none,.ref n 0,some (n,.box cs,false)⟩|none=>none
def Lb(offs:List (Nat×Nat)):List V→List (Nat×V)→Option (List V)|cs,[]=>some cs|cs,(i,v)::r=>match offs[i]? with
 |some (o,n)=>match v.scells with
  |some new=>match Nat.beq new.length n with
   |true=>match putCells cs o new with|some cs'=>Lb offs cs' r|none=>none
   |false=>none
  |none=>none
 |none=>none
def SN(τ:Ad)(t:TypeId)(parts:List (Nat×V)):Option Ah:=match τ t with
 |some ⟨.st offs,_,_,zero,_⟩=>match Lb offs (Jx zero) parts with|some cs=>some ⟨none,.agg cs,none⟩|none=>none
 |some ⟨.arr n e,_,_,zero,_⟩=>match τ e with
  |some ei=>match Lb ((List.range n).map λi=>(i*ei.size,ei.size)) (Jx zero) parts with|some cs=>some ⟨none,.agg cs,none⟩|none=>none
  |none=>none
 |_=>none
def NE(T:Ty):Nat→List (Nat×V)→Option (List T.den)|_,[]=>some []|n,(i,v)::r=>match Nat.beq i n with
 |true=>match v.scells with
  |some cs=>match Ej T cs with
   |some x=>match NE T (n+1) r with|some l=>some (x::l)|none=>none
   |none=>none
  |none=>none
 |false=>none
def cellsOf:Nat→List (Nat×V)→Option (List V)|_,[]=>some []|n,(i,v)::r=>match Nat.beq i n with
 |true=>match v.solid with
  |true=>match cellsOf (n+1) r with|some l=>some (v::l)|none=>none
  |false=>none
 |false=>none
def SO(τ:Ad)(n:Nat)(t:TypeId)(len:Nat)(parts:List (Nat×V)):Option Ah:=match τ t with
 |some ⟨.sl e,_,_,_,_⟩=>match τ e with
  |some ⟨_,size,_,_,some T⟩=>match Nat.beq len parts.length&&Nat.ble (len*size) 16777216 with
   |true=>match NE T 0 parts with|some xs=>some ⟨none,.osl n,some (n,.row T xs,false)⟩|none=>none
   |false=>none
  |some ⟨_,size,_,_,none⟩=>match Nat.beq len parts.length&&Nat.ble len 16777216&&Nat.beq size 1&&Nat.blt 0 len with
   |true=>match cellsOf 0 parts with|some cs=>some ⟨none,.bsl n len,some (n,.box cs,false)⟩|none=>none
   |false=>none
  |none=>none
 |_=>none
def eQ(τ:Ad)(zs:List Value)(T:Ty)(m:Nat):Obj:=match T with
 |.sl u=>match τ 2 with
  |none=>match zs with|[.slice none 0 0]=>.vrow u [] [] m|_=>.row (.sl u) (List.replicate m [])
  |some _=>.row (.sl u) (List.replicate m [])
 |T=>.row T (List.replicate m T.dflt)
def Sd(τ:Ad)(n:Nat)(t:TypeId)(l c:V):Option Ah:=match τ t with
 |some ⟨.sl e,_,_,_,_⟩=>match l with
  |.d (.int .i64) l=>match c with
   |.d (.int .i64) c=>match τ e with|some ⟨_,_,bytes,zs,some T⟩=>some ⟨some (0≤l∧l≤c∧c*bytes≤140737488355328∧c≤9223372036854775807),.osl n,some (n,eQ τ zs T l.toNat,false)⟩|_=>none
   |_=>none
  |_=>none
 |_=>none
def Vd(τ:Ad)(t:TypeId):Bool:=match τ t with|some ⟨.sl _,_,_,_,_⟩|some ⟨.str,_,_,_,_⟩=>true|_=>false
def Gl(p:Prop):Option Prop→Prop|none=>p|some q=>q∧p
def qI(l:Nat):V→Bool|.osp k _ _=>Nat.beq k l|_=>false
def LX(τ:Ad)(os:AF)(n:Nat)(ts tx:TypeId)(s x:V):Option Ah:=match τ ts with
 |some ⟨.sl e,_,_,_,_⟩=>match τ e with
  |some ⟨_,_,bytes,_,some T⟩=>match Vd τ tx with
   |true=>match Vc T os x with
    |some (ys,p)=>match s with
     |.nils=>some ⟨some (Gl (ys.length*bytes≤140737488355328∧ys.length≤9223372036854775807) p),.osl n,some (n,.row T ys,false)⟩|.osl l=>match AA l os with|some (.row t xs)=>if h:t=T then some ⟨some (Gl ((xs.length+ys.length)*bytes≤140737488355328∧xs.length+ys.length≤9223372036854775807) p),.osl l,some (l,.row T ((h▸xs:List T.den)++ys),true)⟩else none|_=>none
     |.osp l 0 k=>match AA l os with|some (.row t xs)=>if h:t=T then match qI l x with|true=>some ⟨some (Gl (k+ys.length≤xs.length) p),.osp l 0 (k+ys.length),some (l,.row T ((h▸xs:List T.den).take k++ys++(h▸xs:List T.den).drop (k+ys.length)),false)⟩|false=>some ⟨some (k≤xs.length∧Gl ((k+ys.length)*bytes≤140737488355328∧k+ys.length≤9223372036854775807) p),.osl l,some (l,.row T ((h▸xs:List T.den).take k++ys),true)⟩else none|_=>none
     |_=>none
    |none=>none
   |false=>match τ tx with
    |some ⟨.int .i64,_,_,_,_⟩=>match x with
     |.d (.int .i64) m=>match s with
      |.nils=>some ⟨some (0≤m∧m*bytes≤140737488355328∧m≤9223372036854775807),.osl n,some (n,.row T (List.replicate m.toNat T.dflt),false)⟩|.osl l=>match AA l os with|some (.row t xs)=>if h:t=T then some ⟨some (0≤m∧(xs.length+m.toNat)*bytes≤140737488355328∧xs.length+m.toNat≤9223372036854775807),.osl l,some (l,.row T ((h▸xs:List T.den)++List.replicate m.toNat T.dflt),true)⟩else none|_=>none
      |_=>none
     |_=>none
    |_=>none
  |_=>none
 |_=>none
def SZ(τ:Ad)(os:AF)(t:TypeId)(x:V):Option Ah:=match τ t with
 |some ⟨.sl _,_,_,_,_⟩=>match x with
  |.d (.sl T) l=>some ⟨none,.d (.int .i64) (List.length (α:=T.den) l:Int),none⟩|.nils=>some ⟨none,.d (.int .i64) (0:Int),none⟩|.osl l=>match AA l os with|some (.row _ xs)=>some ⟨none,.d (.int .i64) (xs.length:Int),none⟩|_=>none
  |.osp _ _ n=>some ⟨none,.d (.int .i64) (n:Int),none⟩|.bsl _ n=>some ⟨none,.d (.int .i64) (n:Int),none⟩|_=>none
 |some ⟨.str,_,_,_,_⟩=>match x with|.d .str s=>some ⟨none,.d (.int .i64) (s.size:Int),none⟩|_=>none
 |some ⟨.arr n _,_,_,_,_⟩=>some ⟨none,.d (.int .i64) (n:Int),none⟩|_=>none
def M4{α:Type}(xs ys:List α)(lo n:Nat):List α:=xs.take lo++ys.take (min ys.length n)++xs.drop (lo+min ys.length n)
def SU(τ:Ad)(os:AF)(td tx:TypeId)(d x:V):Option Ah:=match τ td with
 |some ⟨.sl e,_,_,_,_⟩=>match τ tx with
  |some ⟨.sl _,_,_,_,_⟩=>match τ e with
   |some ⟨_,_,_,_,some T⟩=>match Q2 T os x with
    |some (ys,p)=>match d with
     |.osl l=>match AA l os with|some (.row t xs)=>if h:t=T then some ⟨p,.d (.int .i64) (min ys.length xs.length:Nat),some (l,.row T (M4 (h▸xs:List T.den) ys 0 xs.length),false)⟩else none|_=>none
     |.osp l lo n=>match AA l os with|some (.row t xs)=>if h:t=T then some ⟨some (Gl (lo+n≤xs.length) p),.d (.int .i64) (min ys.length n:Nat),some (l,.row T (M4 (h▸xs:List T.den) ys lo n),false)⟩else none|_=>none
     |_=>none
    |none=>none
   |_=>none
  |_=>none
 |_=>none
def ND(mk:Nat→Nat→V)(base n:Nat)(lo hi:Option V):Option Ah:=match lo with
 |none=>match hi with|none=>some ⟨none,mk base n,none⟩|some h=>match h with|.d (.int _) h=>some ⟨some (0≤h∧h≤(n:Int)),mk base h.toNat,none⟩|_=>none
 |some a=>match a with
  |.d (.int _) a=>match hi with|none=>some ⟨some (0≤a∧a≤(n:Int)),mk (base+a.toNat) (n-a.toNat),none⟩|some h=>match h with|.d (.int _) h=>some ⟨some (0≤a∧a≤h∧h≤(n:Int)),mk (base+a.toNat) (h.toNat-a.toNat),none⟩|_=>none
  |_=>none
def eP(lo hi mx:Option V):Bool:=match lo with
 |none=>match hi with
  |some (.d (.int _) (.ofNat 0))=>match mx with|some (.d (.int _) (.ofNat 0))=>true|_=>false
  |_=>false
 |_=>false
def OI(mx:Option V)(n:Nat):Option (Option Prop):=match mx with|none=>some none|some (.d (.int _) m)=>some (some (m=(n:Int)))|_=>none
def aV(n m:Nat):Option V→Nat|none=>n|some _=>m
def Sh(τ:Ad)(os:AF)(t:TypeId)(x:V)(lo hi mx:Option V):Option Ah:=match τ t with
 |some ⟨.sl e,_,_,_,_⟩=>match τ e with
  |some ei=>match x with
   |.d (.sl T) l=>match Nat.beq T.size ei.size&&Nat.blt 0 T.size with
    |true=>match mx with
     |none=>match lo with
      |none=>match hi with|none=>some ⟨none,.d (.sl T) l,none⟩|some h=>match h with|.d (.int _) h=>some ⟨some (0≤h∧h≤(List.length (α:=T.den) l:Int)),.d (.sl T) (List.take (α:=T.den) h.toNat l),none⟩|_=>none
      |some a=>match a with
       |.d (.int _) a=>match hi with|none=>some ⟨some (0≤a∧a≤(List.length (α:=T.den) l:Int)),.d (.sl T) (List.drop (α:=T.den) a.toNat l),none⟩|some h=>match h with|.d (.int _) h=>some ⟨some (0≤a∧a≤h∧h≤(List.length (α:=T.den) l:Int)),.d (.sl T) ((List.take (α:=T.den) h.toNat l).drop a.toNat),none⟩|_=>none
       |_=>none
     |some _=>match eP lo hi mx with|true=>some ⟨none,.nils,none⟩|false=>none
    |false=>none
   |.osl l=>match AA l os with
    |some (.row T xs)=>match Nat.beq T.size ei.size with
     |true=>match OI mx xs.length with
      |some m=>match ND (.osp l) 0 xs.length lo hi with
       |some ⟨ob,v,ed⟩=>match m with|none=>some ⟨ob,v,ed⟩|some m=>match hi with|some _=>some ⟨some (Gl m ob),.any,none⟩|none=>none
       |none=>none
      |none=>none
     |false=>none
    |_=>none
   |.osp l base n=>match AA l os with
    |some (.row T xs)=>match Nat.beq T.size ei.size with
     |true=>match mx with
      |none=>match ND (.osp l) base (aV n (xs.length-base) hi) lo hi with|some ⟨ob,v,ed⟩=>some ⟨some (Gl (base+n≤xs.length) ob),v,ed⟩|none=>none
      |some _=>none
     |false=>none
    |_=>none
   |.nils=>match mx with
    |none=>match ND (λ_ _=>.nils) 0 0 lo hi with|some o=>some o|none=>none
    |some _=>none
   |_=>none
  |none=>none
 |_=>none
def Pc(mx:Bool)(x y:V):Option Ah:=match x with
 |.d (.int k) a=>match y with
  |.d (.int k') b=>match QM k k' with
   |true=>match mx with|true=>some ⟨none,.d (.int k) (max a b),none⟩|false=>some ⟨none,.d (.int k) (min a b),none⟩
   |false=>none
  |_=>none
 |_=>none
def CA{α β:Type}[DecidableEq α](m:α→Option β)(k:α)(x:β):α→Option β:=λj=>if j=k then some x else m j
def Sc(τ:Ad)(n:Nat)(t:TypeId):Option Ah:=match τ t with
 |some ⟨.map k e,_,_,_,_⟩=>match τ e with
  |some ⟨_,_,_,_,some T⟩=>match Nat.beq T.size 1 with
   |true=>match τ k with|some ⟨.str,_,_,_,_⟩=>some ⟨none,.map n,some (n,.smap T λ_=>none,false)⟩|some ⟨.int .i64,_,_,_,_⟩=>some ⟨none,.map n,some (n,.imap T λ_=>none,false)⟩|_=>none
   |false=>none
  |_=>none
 |_=>none
def S3(ok:Bool)(T:Ty)(x:Option T.den):V:=match ok with|true=>.tup [.d T (x.getD T.dflt),.d .bool x.isSome]|false=>.d T (x.getD T.dflt)
def Sb(τ:Ad)(os:AF)(t:TypeId)(m k:V)(ok:Bool):Option Ah:=match τ t with
 |some ⟨.map kt e,_,_,_,_⟩=>match m with
  |.map l=>match τ e with
   |some ⟨_,_,_,_,some T⟩=>match τ kt with
    |some ⟨.str,_,_,_,_⟩=>match AA l os with
     |some (.smap T' f)=>match k with|.d .str s=>if T'=T then match Nat.beq T.size 1 with|true=>some ⟨none,S3 ok T' (f s),none⟩|false=>none else none|_=>none
     |_=>none
    |some ⟨.int .i64,_,_,_,_⟩=>match AA l os with
     |some (.imap T' f)=>match k with|.d (.int .i64) n=>if T'=T then match Nat.beq T.size 1 with|true=>some ⟨none,S3 ok T' (f n),none⟩|false=>none else none|_=>none
     |_=>none
    |_=>none
   |_=>none
  |_=>none
 |_=>none
def Se(τ:Ad)(os:AF)(t:TypeId)(m k x:V):Option Ah:=match τ t with
 |some ⟨.map kt e,_,_,_,_⟩=>match m with
  |.map l=>match τ kt with
   |some ⟨.str,_,_,_,_⟩=>match AA l os with
    |some (.smap T f)=>match k with
     |.d .str s=>match Ej T [x]with|some y=>some ⟨none,.tup [],some (l,.smap T (CA f s y),false)⟩|none=>none
     |_=>none
    |_=>none
   |some ⟨.int .i64,_,_,_,_⟩=>match AA l os with
    |some (.imap T f)=>match k with
     |.d (.int .i64) n=>match Ej T [x]with|some y=>some ⟨none,.tup [],some (l,.imap T (CA f n y),false)⟩|none=>none
     |_=>none
    |_=>none
   |_=>none
  |_=>none
 |_=>none
def SQ(τ:Ad)(os:AF)(t:TypeId)(x:V):Option Ah:=match τ t with
 |some ⟨.sl e,_,_,_,_⟩=>match x with
  |.osp l lo n=>match τ e with
   |some ⟨_,_,_,_,some T⟩=>match AA l os with|some (.row t xs)=>if t=T then some ⟨some (lo+n≤xs.length),.tup [],some (l,.row t (xs.take lo++List.replicate n t.dflt++xs.drop (lo+n)),false)⟩else none|_=>none
   |_=>none
  |_=>none
 |_=>none
def NB(τ:Ad)(t:TypeId)(x ix:V):Option Ah:=match τ t with
 |some ⟨.arr n e,_,_,_,_⟩=>match x with
  |.agg cs=>match ix with
   |.d (.int _) (.ofNat i)=>match τ e with
    |some ei=>match Nat.blt i n&&Nat.beq ei.size 1&&!ei.isAgg&&ei.k.known with
     |true=>match cs[i]? with|some v=>some ⟨none,v,none⟩|none=>none
     |false=>none
    |none=>none
   |_=>none
  |_=>none
 |_=>none
def SP(τ:Ad)(os:AF)(n:Nat)(b:Builtin)(ts:List TypeId)(args:List V):Option Ah:=match b with
 |.len=>match ts with
  |[t]=>match args with|[x]=>SZ τ os t x|_=>none
  |_=>none
 |.append=>match ts with
  |[t,u]=>match args with|[s,x]=>LX τ os n t u s x|_=>none
  |_=>none
 |.copy=>match ts with
  |[t,u]=>match args with|[d,x]=>SU τ os t u d x|_=>none
  |_=>none
 |.min=>match args with|[x,y]=>Pc false x y|_=>none
 |.max=>match args with|[x,y]=>Pc true x y|_=>none
 |.clear=>match ts with
  |[t]=>match args with|[x]=>SQ τ os t x|_=>none
  |_=>none
 |.cap=>match ts with
  |[t]=>match args with
   |[.nils]=>match τ t with|some ⟨.sl _,_,_,_,_⟩=>some ⟨none,.d (.int .i64) (0:Int),none⟩|_=>none
   |_=>none
  |_=>none
 |_=>none
def PA:V→Option (Option Prop×Bool)|.d .bool b=>some (none,b)|.when g (.d .bool b)=>some (some (g=true),b)|_=>none
def Qn(c:Bool):Option Prop→Option Prop→Option Prop|none,none=>none|some p,none=>some (c=true→p)|none,some q=>some (c=false→q)|some p,some q=>some ((c=true→p)∧(c=false→q))
def Sg(a b:Operand)(c x y:V):Option Ah:=match c with
 |.d .bool c=>match PA x with
  |some (gx,x)=>match PA y with
   |some (gy,y)=>match a with|.const (.bool true)=>some ⟨Qn c none gy,.d .bool (c||y),none⟩|_=>match b with|.const (.bool false)=>some ⟨Qn c gx none,.d .bool (c&&x),none⟩|_=>some ⟨Qn c gx gy,.d .bool (cond c x y),none⟩
   |none=>none
  |none=>none
 |_=>none
def BY(tmps:List (Nat×V)):List Operand→List V|[]=>[]|x::l=>Af tmps x::BY tmps l
def I2(tmps:List (Nat×V)):List (Nat×Operand)→List (Nat×V)|[]=>[]|(i,x)::l=>(i,Af tmps x)::I2 tmps l
def Qf(tmps:List (Nat×V)):Option Operand→Option V|none=>none|some x=>some (Af tmps x)
def NA(τ:Ad)(op:Op)(tmps:List (Nat×V))(os:AF)(n:Nat):Option Ah:=match op with
 |.move x=>some ⟨none,Af tmps x,none⟩|.assign x=>some ⟨none,Af tmps x,none⟩|.pick c a b=>Sg a b (Af tmps c) (Af tmps a) (Af tmps b)|.alloc t=>SK τ n t|.box _ x=>SM n (Af tmps x)|.build t parts=>SN τ t (I2 tmps parts.toList)|.buildSlice t m parts=>SO τ n t m (I2 tmps parts.toList)|.load t a=>Sa τ os t (Af tmps a)|.store t a x=>Si τ os t (Af tmps a) (Af tmps x)|.nilCheck x=>match Af tmps x with|.ref l o=>some ⟨none,.ref l o,none⟩|.er cs=>some ⟨none,.er cs,none⟩|.opt b (.er cs)=>some ⟨some (b=true),.er cs,none⟩|.fn (.func f) a b=>some ⟨none,.fn (.func f) a b,none⟩|_=>none
 |.binOp op xt x y _=>SL τ op xt (Af tmps x) (Af tmps y)|.unOp op _ x=>Sj op (Af tmps x)|.convert a b x=>SR τ os a b (Af tmps x)|.makeFunc f a b=>some ⟨none,.fn f (BY tmps a.toList) (BY tmps b.toList),none⟩|.makeSlice t l c=>Sd τ n t (Af tmps l) (Af tmps c)|.slice t x lo hi mx=>Sh τ os t (Af tmps x) (Qf tmps lo) (Qf tmps hi) (Qf tmps mx)|.fieldAddr t x f=>SV τ os t (Af tmps x) f|.indexAddr t x i=>SX τ os t (Af tmps x) (Af tmps i)|.index t x i=>NB τ t (Af tmps x) (Af tmps i)|.makeMap t none=>Sc τ n t|.lookup t m k ok=>Sb τ os t (Af tmps m) (Af tmps k) ok|.mapUpdate t m k x=>Se τ os t (Af tmps m) (Af tmps k) (Af tmps x)|.extract x i=>match Af tmps x with
  |.tup vs=>match vs[i]? with|some v=>some ⟨none,v,none⟩|none=>none
  |_=>none
 |.call {callee:=.builtin b,args,argTypes}=>SP τ os n b argTypes.toList (BY tmps args.toList)|_=>none
section
section inv
variable {P : Program} {E : AH} {c : Value}
theorem Z.int_inv{k:IntKind}{n:Int}(h:Z P E (.d (.int k) n) c):c=.int k n:=by cases h with|d h=>simpa[BE]using h
theorem Z.bool_inv{b:Bool}(h:Z P E (.d .bool b) c):c=.bool b:=by cases h with|d h=>simpa[BE]using h
theorem Z.str_inv{s:ByteArray}(h:Z P E (.d .str s) c):c=.string s:=by cases h with|d h=>simpa[BE]using h
theorem Z.mk_int(k:IntKind)(n:Int):Z P E (.d (.int k) n) (.int k n):=.d rfl
theorem Z.mk_bool(b:Bool):Z P E (.d .bool b) (.bool b):=.d rfl
theorem Z.mk_str(s:ByteArray):Z P E (.d .str s) (.string s):=.d rfl
theorem WQ{T:Ty}{v:V}{l:List T.den}(h:Mt T v=some l)(r:Z P E v c):BE E.w E.S (.sl T) l [c]:=by
 unfold Mt at h;split at h
 ·split at h;·rename_i ht;subst ht;cases h;cases r with|d h=>exact h
  ·cases h
 ·cases h;cases r;exact⟨_,_,rfl,⟨zB _,ZAl _⟩,λh=>absurd rfl h⟩
 ·cases h
def AS(P:Program)(E:AH)(vs:List V)(cs:List Value):Prop:=cs.length=vs.length∧∀j,j<vs.length→Z P E (vs.getD j .any) (cs.getD j undef)
theorem AS.nil:AS P E [] []:=⟨rfl,λj h=>absurd h (by simp)⟩
theorem AS.cons{v:V}{vs:List V}{c:Value}{cs:List Value}(h:Z P E v c)(r:AS P E vs cs):AS P E (v::vs) (c::cs):=⟨by simp[r.1],λj hj=>by cases j with|zero=>simpa using h|succ j=>simpa using r.2 j (by simpa using hj)⟩
theorem AS.head{v:V}{vs:List V}{c:Value}{cs:List Value}(r:AS P E (v::vs) (c::cs)):Z P E v c:=by simpa using r.2 0 (by simp)
theorem AS.tail{v:V}{vs:List V}{c:Value}{cs:List Value}(r:AS P E (v::vs) (c::cs)):AS P E vs cs:=⟨by simpa using r.1,λj hj=>by simpa using r.2 (j+1) (by simpa using hj)⟩
theorem AS.append{vs ws:List V}{cs ds:List Value}(h:AS P E vs cs)(k:AS P E ws ds):AS P E (vs++ws) (cs++ds):=by induction vs generalizing cs with|nil=>have :cs=[]:=zR (by simpa using h.1);subst this;simpa using k|cons v vs ih=>cases cs with|nil=>have :=h.1;simp at this|cons c cs=>exact .cons h.head (ih h.tail)
theorem AS.take{vs:List V}{cs:List Value}(h:AS P E vs cs)(n:Nat):AS P E (vs.take n) (cs.take n):=by induction vs generalizing cs n with|nil=>have :cs=[]:=zR (by simpa using h.1);subst this;simpa using h|cons v vs ih=>cases cs with|nil=>have :=h.1;simp at this|cons c cs=>cases n with|zero=>exact .nil|succ n=>exact .cons h.head (ih h.tail n)
theorem AS.drop{vs:List V}{cs:List Value}(h:AS P E vs cs)(n:Nat):AS P E (vs.drop n) (cs.drop n):=by induction n generalizing vs cs with|zero=>simpa using h|succ n ih=>cases vs with|nil=>have :cs=[]:=zR (by simpa using h.1);subst this;simpa using h|cons v vs=>cases cs with|nil=>have :=h.1;simp at this|cons c cs=>simpa using ih h.tail
theorem AS.mono{E':AH}(hx:Bv E E' []){vs:List V}{cs:List Value}(h:AS P E vs cs):AS P E' vs cs:=⟨h.1,λj hj=>(h.2 j hj).mono hx⟩
theorem JK:∀{t:Ty}{x:t.den}{cs:List Value},BE E.w E.S t x cs→AS P E (FL t x) cs|.int _,_,_,h=>by have h':=h;rw[show _=_ from h]at h'⊢;exact .cons (.d h') .nil|.bool,_,_,h=>by have h':=h;rw[show _=_ from h]at h'⊢;exact .cons (.d h') .nil|.str,_,_,h=>by have h':=h;rw[show _=_ from h]at h'⊢;exact .cons (.d h') .nil|.sl _,_,_,h=>by have h':=h;obtain⟨a,c,rfl,_⟩:=h;exact .cons (.d h') .nil|.pair _ _,_,_,⟨c1,c2,h,h1,h2⟩=>by rw[h];exact(JK h1).append (JK h2)|.unit,_,_,h=>by rw[show _=_ from h];exact .nil
theorem AS.single{v:V}{cs:List Value}(r:AS P E [v] cs):∃c,cs=[c]∧Z P E v c:=by match cs,r with|[],r=>have :=r.1;simp at this|[c],r=>exact⟨c,rfl,r.head⟩|_::_::_,r=>have :=r.1;simp at this
theorem UK{a b:IntKind}(h:QM a b=true):a=b:=by cases a<;>cases b<;>first|rfl|cases h
theorem GY:∀{t:Ty}{vs:List V}{x:t.den}{cs:List Value},Ej t vs=some x→AS P E vs cs→BE E.w E.S t x cs
 |.int k,vs,x,cs,h,r=>by
  simp only[Ej,Uw]at h;split at h
  ·split at h;·rename_i hk;cases h;rw[←UK hk];obtain⟨c,rfl,h'⟩:=r.single;rw[h'.int_inv];rfl
   ·cases h
  ·cases h|.bool,vs,x,cs,h,r=>by
  simp only[Ej,Uv]at h;split at h;·cases h;obtain⟨c,rfl,h'⟩:=r.single;rw[h'.bool_inv];rfl
  ·cases h|.str,vs,x,cs,h,r=>by
  simp only[Ej,Ux]at h;split at h;·cases h;obtain⟨c,rfl,h'⟩:=r.single;rw[h'.str_inv];rfl
  ·cases h|.sl t,vs,x,cs,h,r=>by
  simp only[Ej,aY]at h;split at h;·obtain⟨c,rfl,h'⟩:=r.single;exact WQ h h'
  ·cases h|.pair a b,vs,x,cs,h,r=>by
  simp only[Ej]at h;split at h
  ·rename_i p hp;split at h;·rename_i q hq;cases h;exact⟨cs.take a.size,cs.drop a.size,(ZAx _ _).symm,GY hp (r.take _),GY hq (r.drop _)⟩
   ·cases h
  ·cases h|.unit,vs,x,cs,h,r=>by
  simp only[Ej,aZ]at h;split at h;·exact zR (by simpa using r.1)
  ·cases h
theorem RG(c:Value):Z P E (RF c) c:=by
 unfold RF;split;·exact .mk_int _ _
 ·exact .mk_bool _
 ·exact .mk_str _
 ·exact .nils _
 ·exact .nilp
 ·exact .nilf
 ·exact .nilm
 ·rename_i vs;split;·rename_i h;exact .tup (by simpa using zX List.length h) λj hj=>absurd hj (by simp)
  ·exact .any _
 ·exact .any _
theorem RL(vs:List Value):AS P E (Jx vs) vs:=by induction vs with|nil=>exact .nil|cons v vs ih=>exact .cons (RG v) ih
theorem Qz:∀{v:V}{c:Value},v.solid=true→Z P E v c→c.oneCell'=true
 |.any,_,h,_=>by simp[V.solid]at h|.when ..,_,h,_=>by simp[V.solid]at h|.tup _,_,h,_=>by simp[V.solid]at h|.agg _,_,h,_=>by simp[V.solid]at h|.opt b v,c,h,r=>by cases r with|opt h1 h2=>cases b with|true=>exact Qz (by simpa[V.solid]using h) (h1 rfl)|false=>rw[h2 rfl];rfl
 |.d t x,c,_,r=>by cases r with|d h=>exact h.one c (by simp)
 |.nilp,c,_,r=>by cases r;rfl|.nilf,c,_,r=>by cases r;rfl|.nils,c,_,r=>by cases r;rfl|.nilm,c,_,r=>by cases r;rfl|.fn ..,c,_,r=>by cases r;rfl|.er _,c,_,r=>by cases r;rfl|.ref ..,c,_,r=>by cases r;rfl|.rref ..,c,_,r=>by cases r;rfl|.osl ..,c,_,r=>by cases r;rfl|.osp ..,c,_,r=>by cases r with|osp _ h=>obtain⟨a,h,_⟩:=h;rw[h];rfl
 |.map _,c,_,r=>by cases r;rfl|.pf ..,c,_,r=>by cases r with|pf h=>obtain⟨g,a,b,h,_⟩:=h;rw[h];rfl
 |.yl _,c,_,r=>by cases r;rfl|.bsl ..,c,_,r=>by cases r;rfl
theorem Rw{c:Value}(h:c.oneCell'=true):c.cells=#[c]:=by cases c<;>simp[Value.oneCell']at h<;>rfl
theorem WG:∀{l:List V},O5 l=true→∀v∈l,v.solid=true
 |[],_,v,h=>by simp at h|u::l,h,v,hv=>by
  unfold O5 at h;split at h
  ·rename_i hu;rcases List.mem_cons.1 hv with rfl|hv;·exact hu
   ·exact WG h v hv
  ·cases h
theorem Qv{v:V}{cs:List V}{c:Value}(h:v.scells=some cs)(r:Z P E v c):AS P E cs c.cells.toList∧∀u∈c.cells.toList,u.oneCell'=true:=by
 unfold V.scells at h;split at h
 ·split at h;·rename_i ds hs;cases h;cases r with|agg h1 h2=>
   rename_i a;have hr:AS P E cs a.toList:=⟨by simpa using h1,λj hj=>by simpa[zH,yT]using h2 j hj⟩;refine⟨hr,λu hu=>?_⟩;change u∈a.toList at hu;obtain⟨j,hj,rfl⟩:=List.getElem_of_mem hu;have hj':j<cs.length:=by rw[←hr.1];exact hj
   have :=hr.2 j hj';simp only[yT,zK hj,zK hj',ZBc]at this;exact Qz (WG hs _ (ZDB hj')) this
  ·cases h
 ·split at h;·rename_i hs;cases h;have h1:=Qz hs r;rw[Rw h1];refine⟨.cons r .nil,λu hu=>?_⟩;simp at hu;subst hu;exact h1
  ·cases h
end inv
end
section
variable {P : Program}
theorem Z2{f:V→V}(hf:f .any=.any)(t:Nat):∀l:List (Nat×V),AW t (l.map λp=>(p.1,f p.2))=f (AW t l)
 |[]=>hf.symm|(u,v)::l=>by
  rw[ZAK,CC,CC];split;·rfl
  ·exact Z2 hf t l
theorem Ks(f:V→V)(t:Nat)(l:List (Nat×V)):AW t (l.map λp=>(p.1,p.2.subst f))=(AW t l).subst f:=Z2 (f:=V.subst f) rfl t l
theorem G6(f:V→V)(l:Nat):∀objs:AF,AA l (substO f objs)=(AA l objs).map (Obj.subst f)
 |[]=>rfl|(k,o)::r=>by
  rw[substO,Ay,Ay];split;·rfl
  ·exact G6 f l r
theorem Obj.has_subst{f:V→V}{o:Obj}{L:AU}:(o.subst f).has L↔o.has L:=by cases o<;>exact ZCR
theorem aX{f:V→V}{E:AH}{objs:AF}{b:Nat}:Cd E (substO f objs) b↔Cd E objs b:=by
 constructor;·rintro⟨l,o,L,h1,h2,h3,h4⟩;rw[G6,ZAA]at h1;obtain⟨o',h5,rfl⟩:=h1;exact⟨l,o',L,h5,h2,Obj.has_subst.1 h3,h4⟩
 ·rintro⟨l,o,L,h1,h2,h3,h4⟩;exact⟨l,o.subst f,L,by rw[G6,h1];rfl,h2,Obj.has_subst.2 h3,h4⟩
theorem Aj.keepS{E E':AH}{L:AU}{o:Obj}{f:V→V}(h:Aj P E L o)(hr:∀v c,Z P E v c→Z P E' (v.subst f) c)(hS:∀b,E.S b→E'.S b∧E'.w.heap[b]?=E.w.heap[b]?)(hb:o.has L→E'.w.heap[L.b]?=E.w.heap[L.b]?):Aj P E' L (o.subst f):=by cases o with
 |dead=>trivial|box cs=>
  obtain⟨vals,t,h2,h3,h4⟩:=h;have len:(C4 f cs).length=cs.length:=by rw[Ie,zL]
  exact⟨vals,t,by rw[hb trivial];exact h2,by rw[len];exact h3,λj hj=>by rw[len]at hj;rw[I6 hj];exact hr _ _ (h4 j hj)⟩|row t xs=>
  obtain⟨h1,h2,h3,e,cs,h4,h5⟩:=h;refine⟨h1,h2,h3,e,cs,h4.mono hS,?_⟩;rcases h5 with h5|⟨cur,h5,h6,h7,h8,h9⟩;·exact .inl h5
  ·exact .inr ⟨cur,h5,by rw[hb (by simp only[Obj.has];omega)];exact h6,h7,h8,h9⟩|vrow t xs s m=>
  obtain⟨h1,h2,h3,e,cs,h4,h5⟩:=h;have len:(C4 f s).length=s.length:=by rw[Ie,zL]
  refine⟨h1,by rw[len];exact h2,by rw[len];exact h3,e,cs,h4.mono hS,?_⟩;rcases h5 with h5|⟨cur,h5,h6,h7,h8,h9,BX,Db,DK,FN⟩;·exact .inl h5
  ·exact .inr ⟨cur,h5,by rw[hb (by simp only[Obj.has];omega)];exact h6,h7,h8,h9,BX,Db,λj hj=>by rw[len]at hj;rw[I6 hj];exact hr _ _ (DK j hj),by rw[len];exact FN⟩|smap t m=>obtain⟨es,c,h2,h3⟩:=h;exact⟨es,c,by rw[hb trivial];exact h2,h3.mono hS⟩|imap t m=>obtain⟨es,c,h2,h3⟩:=h;exact⟨es,c,by rw[hb trivial];exact h2,h3.mono hS⟩|lrec nt tmps ps a b st j=>obtain⟨r,h1,h2,h3,h4⟩:=h;exact⟨r,by rw[hb trivial];exact h1,h2,λt=>by rw[Ks];exact hr _ _ (h3 t),h4⟩|dfb=>exact(hb trivial).trans h
theorem Aj.keep{E E':AH}{L:AU}{o:Obj}(h:Aj P E L o)(hx:Bv E E' [])(hb:o.has L→E'.w.heap[L.b]?=E.w.heap[L.b]?):Aj P E' L o:=by cases o with
 |dead=>trivial|box cs=>obtain⟨vals,t,h2,h3,h4⟩:=h;exact⟨vals,t,by rw[hb trivial];exact h2,h3,λj hj=>(h4 j hj).mono hx⟩|row t xs=>
  obtain⟨h1,h2,h3,e,cs,h4,h5⟩:=h;refine⟨h1,h2,h3,e,cs,h4.mono hx.S,?_⟩;rcases h5 with h5|⟨cur,h5,h6,h7,h8,h9⟩;·exact .inl h5
  ·exact .inr ⟨cur,h5,by rw[hb (by simp only[Obj.has];omega)];exact h6,h7,h8,h9⟩|vrow t xs s m=>
  obtain⟨h1,h2,h3,e,cs,h4,h5⟩:=h;refine⟨h1,h2,h3,e,cs,h4.mono hx.S,?_⟩;rcases h5 with h5|⟨cur,h5,h6,h7,h8,h9,BX,Db,DK,FN⟩;·exact .inl h5
  ·exact .inr ⟨cur,h5,by rw[hb (by simp only[Obj.has];omega)];exact h6,h7,h8,h9,BX,Db,λj hj=>(DK j hj).mono hx,FN⟩|smap t m=>obtain⟨es,c,h2,h3⟩:=h;exact⟨es,c,by rw[hb trivial];exact h2,h3.mono hx.S⟩|imap t m=>obtain⟨es,c,h2,h3⟩:=h;exact⟨es,c,by rw[hb trivial];exact h2,h3.mono hx.S⟩|lrec nt tmps ps a b st j=>obtain⟨r,h1,h2,h3,h4⟩:=h;exact⟨r,by rw[hb trivial];exact h1,h2,λt=>(h3 t).mono hx,h4⟩|dfb=>exact(hb trivial).trans h
def AH.setL(E:AH)(w:World)(l:Nat)(L:AU):AH:=⟨w,E.S,λj=>if j=l then some L else E.loc j⟩
theorem Bi(E:AH)(w:World)(l:Nat)(L:AU):(E.setL w l L).loc l=some L:=yS rfl
theorem BZ(E:AH)(w:World){l j:Nat}(L:AU)(h:j≠l):(E.setL w l L).loc j=E.loc j:=yP h
theorem World.grownBy_refl'(w:World):w.grownBy w none:=⟨rfl,rfl,rfl,zB _,λ_ _ _=>rfl⟩
theorem OW{E:AH}{objs:AF}(g:AC P E objs){w:World}{l:Nat}(L:AU)(hf:E.loc l=none)(hw:E.w.grownBy w none):Bv E (E.setL w l L) []:=⟨λb hb=>⟨hb,hw.block b (g.sl b hb) (by simp)⟩,λj K _ hj=>by
 have Ab:j≠l:=by rintro rfl;rw[hf]at hj;cases hj
 rw[BZ _ _ _ Ab];exact hj⟩
theorem Gq{k l:Nat}{o:Obj}{r:AF}(h:AA k ((l,o)::r)=none):k≠l∧AA k r=none:=by
 rw[Ay]at h;split at h;·cases h
 ·rename_i e;exact⟨λe'=>e e'.symm,h⟩
theorem X4{k l:Nat}{o:Obj}{mv:Bool}{r:AF}(h:AA k (edit r (some (l,o,mv)))=none):k≠l∧AA k r=none:=by cases mv with|false=>exact Gq h|true=>obtain⟨h1,h2⟩:=Gq h;rw[G6]at h2;exact⟨h1,by simpa using h2⟩
theorem AC.push{E:AH}{objs:AF}(g:AC P E objs){w:World}{l:Nat}{L:AU}{o:Obj}(hf:E.loc l=none)(hw:E.w.grownBy w none)(ho:Aj P (E.setL w l L) L o)(hb:o.has L→E.w.heap.size≤L.b):AC P (E.setL w l L) ((l,o)::objs)∧BF E objs (E.setL w l L) ((l,o)::objs) []:=by
 have hx:=OW g L hf hw;have Ab:∀{j p},AA j objs=some p→j≠l:=by rintro j p h rfl;obtain⟨K,hK,_⟩:=g.at_ _ _ h;rw[hf]at hK;cases hK
 have A4:∀j p,AA j ((l,o)::objs)=some p→j≠l∧AA j objs=some p∨j=l∧p=o:=by
  intro j p h;rw[Ay]at h;split at h;·rename_i e;exact .inr ⟨e.symm,by cases h;rfl⟩
  ·rename_i e;exact .inl ⟨λe'=>e e'.symm,h⟩
 have FS:∀b,Cd (E.setL w l L) ((l,o)::objs) b→Cd E objs b∨E.w.heap.size≤b:=by
  rintro b⟨j,p,K,h1,h2,h3,h4⟩;rcases A4 j p h1 with⟨hn,h⟩|⟨rfl,rfl⟩;·rw[BZ _ _ _ hn]at h2;exact .inl ⟨j,p,K,h,h2,h3,h4⟩
  ·rw[Bi]at h2;cases h2;exact .inr (h4▸hb h3)
 refine⟨⟨λj p h=>?_,λb h hs=>?_,λb h=>ZA0 (g.sl b h) hw.size,g.tab.mono hx.S,λi j p q K K' h1 h2 h3 h4 h5 h6 h7=>?_⟩,⟨hx,hw.os,hw.tape,hw.output,hw.size,λb h _=>hw.block b h (by simp),λb h=>(FS b h).elim .inr .inl,λb h=>.inl h,λk h=>(Gq h).2,λk h=>BZ _ _ _ (Gq h).1⟩⟩
 ·rcases A4 j p h with⟨hn,h⟩|⟨rfl,rfl⟩;·obtain⟨K,hK,ha⟩:=g.at_ j p h;exact⟨K,by rw[BZ _ _ _ hn];exact hK,ha.keep hx λhh=>hw.block _ (ha.block_lt hh) (by simp)⟩
  ·exact⟨L,Bi _ _ _ _,ho⟩
 ·rcases FS b h with h|h;·exact g.ns b h hs
  ·have :=g.sl b hs;omega
 ·rcases A4 i p h1 with⟨hi,k1⟩|⟨rfl,rfl⟩<;>rcases A4 j q h2 with⟨hj,k2⟩|⟨rfl,rfl⟩;·rw[BZ _ _ _ hi]at h3;rw[BZ _ _ _ hj]at h4;exact g.inj i j p q K K' k1 k2 h3 h4 h5 h6 h7
  ·rw[BZ _ _ _ hi]at h3;rw[Bi]at h4;cases h4;obtain⟨K0,EL,ha⟩:=g.at_ i p k1;rw[h3]at EL;cases EL;have :=ha.block_lt h5;have :=hb h6;omega
  ·rw[BZ _ _ _ hj]at h4;rw[Bi]at h3;cases h3;obtain⟨K0,EL,ha⟩:=g.at_ j q k2;rw[h4]at EL;cases EL;have :=ha.block_lt h6;have :=hb h5;omega
  ·rfl
theorem K4{E:AH}{objs:AF}(g:AC P E objs){w:World}{l:Nat}{L L':AU}{o:Obj}{row:Option Nat}{M:List Nat}(hl:AA l objs=some o)(hL:E.loc l=some L)(hw:E.w.grownBy w row)(B2:∀b,row=some b→o.has L∧b=L.b)(hM:l∉M→L'=L):Bv E (E.setL w l L') M:=⟨λb hs=>⟨hs,hw.block b (g.sl b hs) (by intro e;obtain⟨h1,h2⟩:=B2 b e.symm;exact g.ns b ⟨l,o,L,hl,hL,h1,h2.symm⟩ hs)⟩,λj K hj hK=>by
 by_cases Ab:j=l;·subst Ab;rw[hL]at hK;cases hK;rw[Bi,hM hj]
 ·rw[BZ _ _ _ Ab];exact hK⟩
theorem OA{E E':AH}{l:Nat}(hx:Bv E E' [l]){v:V}{c:Value}(r:Z P E v c):Z P E' (v.subst (Ca l)) c:=by refine LF hx.S (λv c hv r=>?_) r;have loc:∀{k L},E.loc k=some L→k≠l→E'.loc k=some L:=λh Ab=>hx.loc _ _ (by simpa using Ab) h;cases r<;>simp only[V.isRef,zY]at hv<;>simp only[Ca,V.key]<;>split<;>first|exact .any _|(rename_i e;have Ab:=ZAt e;have hl:=loc (by assumption) Ab;first|exact .ref hl|exact .rref hl|exact .osl hl|exact .osp hl (by assumption)|exact .map hl|exact .yl hl|exact .bsl hl)
theorem AC.put{E:AH}{objs:AF}(g:AC P E objs){w:World}{l:Nat}{L L':AU}{o o':Obj}{row:Option Nat}{mv:Bool}(hl:AA l objs=some o)(hL:E.loc l=some L)(hw:E.w.grownBy w row)(B2:∀b,row=some b→o.has L∧b=L.b)(HM:mv=false→L'=L)(ho:Aj P (E.setL w l L') L' o')(hb:o'.has L'→o.has L∧L'.b=L.b∨E.w.heap.size≤L'.b):AC P (E.setL w l L') (edit objs (some (l,o',mv)))∧BF E objs (E.setL w l L') (edit objs (some (l,o',mv))) (moved (some (l,o',mv))):=by
 have hM:l∉moved (some (l,o',mv))→L'=L:=by cases mv with|false=>exact λ_=>HM rfl|true=>intro h;simp[moved]at h
 have hx:=K4 g (M:=moved (some (l,o',mv))) hl hL hw B2 hM;have xD:∀b,E.S b→some b≠row:=by intro b hs e;obtain⟨h1,h2⟩:=B2 b e.symm;exact g.ns b ⟨l,o,L,hl,hL,h1,h2.symm⟩ hs
 have A4:∀j p,AA j (edit objs (some (l,o',mv)))=some p→(j≠l∧∃q,AA j objs=some q∧(∀K,p.has K↔q.has K)∧∀K,Aj P E K q→(q.has K→w.heap[K.b]?=E.w.heap[K.b]?)→Aj P (E.setL w l L') K p)∨j=l∧p=o':=by intro j p h;cases mv with
  |false=>
   have QK:=K4 g (M:=[]) hl hL hw B2 λ_=>HM rfl;simp only[edit,Ay]at h;split at h;·rename_i e;exact .inr ⟨e.symm,by cases h;rfl⟩
   ·rename_i e;exact .inl ⟨λe'=>e e'.symm,p,h,λ_=>ZCR,λK ha hk=>ha.keep QK hk⟩|true=>
   simp only[edit,Ay]at h;split at h;·rename_i e;exact .inr ⟨e.symm,by cases h;rfl⟩
   ·rename_i e;rw[G6,ZAA]at h;obtain⟨q,hq,rfl⟩:=h;exact .inl ⟨λe'=>e e'.symm,q,hq,λ_=>Obj.has_subst,λK ha hk=>ha.keepS (λv c r=>OA hx r) hx.S hk⟩
 have FS:∀b,Cd (E.setL w l L') (edit objs (some (l,o',mv))) b→Cd E objs b∨E.w.heap.size≤b:=by
  rintro b⟨j,p,K,h1,h2,h3,h4⟩;rcases A4 j p h1 with⟨hn,q,hq,hh,_⟩|⟨rfl,rfl⟩;·rw[BZ _ _ _ hn]at h2;exact .inl ⟨j,q,K,hq,h2,(hh K).1 h3,h4⟩
  ·rw[Bi]at h2;cases h2;rcases hb h3 with⟨h5,h6⟩|h5;·exact .inl ⟨j,o,L,hl,hL,h5,by rw[←h6,h4]⟩
   ·exact .inr (h4▸h5)
 refine⟨⟨λj p h=>?_,λb h hs=>?_,λb h=>ZA0 (g.sl b h) hw.size,g.tab.mono hx.S,λi j p q K K' h1 h2 h3 h4 h5 h6 h7=>?_⟩,⟨hx,hw.os,hw.tape,hw.output,hw.size,λb h hn=>hw.block b h λe=>?_,λb h=>(FS b h).elim .inr .inl,λb h=>.inl h,λk h=>(X4 h).2,λk h=>BZ _ _ _ (X4 h).1⟩⟩
 ·rcases A4 j p h with⟨hn,q,hq,hh,hc⟩|⟨rfl,rfl⟩;·obtain⟨K,hK,ha⟩:=g.at_ j q hq;refine⟨K,by rw[BZ _ _ _ hn];exact hK,hc K ha λCI=>hw.block _ (ha.block_lt CI) λe=>hn ?_⟩;obtain⟨h6,h7⟩:=B2 _ e.symm;exact g.inj j l q o K L hq hl hK hL CI h6 h7
  ·exact⟨L',Bi _ _ _ _,ho⟩
 ·rcases FS b h with h|h;·exact g.ns b h hs
  ·have :=g.sl b hs;omega
 ·rcases A4 i p h1 with⟨hi,p',k1,hp,_⟩|⟨rfl,rfl⟩<;>rcases A4 j q h2 with⟨hj,q',k2,hq,_⟩|⟨rfl,rfl⟩;·rw[BZ _ _ _ hi]at h3;rw[BZ _ _ _ hj]at h4;exact g.inj i j p' q' K K' k1 k2 h3 h4 ((hp K).1 h5) ((hq K').1 h6) h7
  ·rw[BZ _ _ _ hi]at h3;rw[Bi]at h4;cases h4;rcases hb h6 with⟨h8,h9⟩|h8;·exact g.inj i j p' o K L k1 hl h3 hL ((hp K).1 h5) h8 (h7.trans h9)
   ·obtain⟨K0,EL,ha⟩:=g.at_ i p' k1;rw[h3]at EL;cases EL;have :=ha.block_lt ((hp K).1 h5);omega
  ·rw[BZ _ _ _ hj]at h4;rw[Bi]at h3;cases h3;rcases hb h5 with⟨h8,h9⟩|h8;·exact g.inj i j o q' L K' hl k2 hL h4 h8 ((hq K').1 h6) (h9.symm.trans h7)
   ·obtain⟨K0,EL,ha⟩:=g.at_ j q' k2;rw[h4]at EL;cases EL;have :=ha.block_lt ((hq K').1 h6);omega
  ·rfl
 ·obtain⟨h6,h7⟩:=B2 b e.symm;exact hn ⟨l,o,L,hl,hL,h6,h7.symm⟩
def AH.still(E:AH)(b:Nat)(has:Prop):AH:=⟨E.w,λk=>E.S k∨has∧k=b,E.loc⟩
theorem AC.still{E:AH}{objs:AF}(g:AC P E objs){l:Nat}{o:Obj}{L:AU}(hl:AA l objs=some o)(hL:E.loc l=some L):AC P (E.still L.b (o.has L)) ((l,.dead)::objs)∧BF E objs (E.still L.b (o.has L)) ((l,.dead)::objs) []:=by
 have hx:Bv E (E.still L.b (o.has L)) []:=⟨λb hs=>⟨.inl hs,rfl⟩,λj K _ hK=>hK⟩;have A4:∀j p,AA j ((l,Obj.dead)::objs)=some p→j≠l∧AA j objs=some p∨j=l∧p=.dead:=by
  intro j p h;rw[Ay]at h;split at h;·rename_i e;exact .inr ⟨e.symm,by cases h;rfl⟩
  ·rename_i e;exact .inl ⟨λe'=>e e'.symm,h⟩
 have FS:∀b,Cd (E.still L.b (o.has L)) ((l,.dead)::objs) b→∃j p K,j≠l∧AA j objs=some p∧E.loc j=some K∧p.has K∧K.b=b:=by
  rintro b⟨j,p,K,h1,h2,h3,h4⟩;rcases A4 j p h1 with⟨Ab,h⟩|⟨rfl,rfl⟩;·exact⟨j,p,K,Ab,h,h2,h3,h4⟩
  ·exact h3.elim
 refine⟨⟨λj p h=>?_,λb h hs=>?_,?_,g.tab.mono hx.S,λi j p q K K' h1 h2 h3 h4 h5 h6 h7=>?_⟩,⟨hx,rfl,rfl,rfl,zB _,λ_ _ _=>rfl,λb h=>?_,λb h=>?_,λk h=>(Gq h).2,λ_ _=>rfl⟩⟩
 ·rcases A4 j p h with⟨Ab,h⟩|⟨rfl,rfl⟩;·obtain⟨K,hK,ha⟩:=g.at_ j p h;exact⟨K,hK,ha.keep hx λ_=>rfl⟩
  ·exact⟨L,hL,trivial⟩
 ·obtain⟨j,p,K,Ab,h1,h2,h3,h4⟩:=FS b h;rcases hs with hs|⟨hh,e⟩;·exact g.ns b ⟨j,p,K,h1,h2,h3,h4⟩ hs
  ·exact Ab (g.inj j l p o K L h1 hl h2 hL h3 hh (h4.trans e))
 ·rintro b(hs|⟨hh,rfl⟩);·exact g.sl b hs
  ·exact g.own_lt ⟨l,o,L,hl,hL,hh,rfl⟩
 ·rcases A4 i p h1 with⟨hi,h1⟩|⟨rfl,rfl⟩
  ·rcases A4 j q h2 with⟨hj,h2⟩|⟨rfl,rfl⟩;·exact g.inj i j p q K K' h1 h2 h3 h4 h5 h6 h7
   ·exact h6.elim
  ·exact h5.elim
 ·obtain⟨j,p,K,Ab,h1,h2,h3,h4⟩:=FS b h;exact .inr ⟨j,p,K,h1,h2,h3,h4⟩
 ·rcases h with h|⟨hh,e⟩;·exact .inl h
  ·exact .inr (.inr ⟨l,o,L,hl,hL,hh,e.symm⟩)
theorem AC.grow{E:AH}{objs:AF}(g:AC P E objs){w:World}{S:Nat→Prop}(h:G0 E.w E.S w S):AC P ⟨w,S,E.loc⟩ objs∧BF E objs ⟨w,S,E.loc⟩ objs []:=by
 have hx:Bv E ⟨w,S,E.loc⟩ []:=⟨λb hs=>⟨h.up b hs,h.frame b (g.sl b hs)⟩,λ_ _ _ hK=>hK⟩;refine⟨⟨λj p hj=>?_,λb ho hs=>?_,h.lt,g.tab.mono hx.S,g.inj⟩,⟨hx,h.os,h.tape,h.output,h.size,λb hb _=>h.frame b hb,λb hb=>.inr hb,λb hb=>(h.st b hb).imp_right .inl,λ_ h=>h,λ_ _=>rfl⟩⟩;·obtain⟨K,hK,ha⟩:=g.at_ j p hj;exact⟨K,hK,ha.keep hx λhh=>h.frame _ (ha.block_lt hh)⟩
 ·have AY:=g.own_lt (b:=b) ho;rcases h.st b hs with hs|hs;·exact g.ns b ho hs
  ·omega
def AH.at(E:AH)(w:World):AH:={E with w:=w}
theorem AC.at{E:AH}{objs:AF}(g:AC P E objs){w:World}(h:w.heap=E.w.heap)(h0:E.w.drawn≤w.drawn)(h1:w.os=E.w.os)(h2:w.tape=E.w.tape)(h3:w.output=E.w.output):AC P (E.at w) objs∧BF E objs (E.at w) objs []:=g.grow (w:=w) (S:=E.S) ⟨h0,h1,h2,h3,by rw[h];exact zB _,λb _=>by rw[h],λ_ h=>h,λ_ h=>.inl h,λb hb=>by rw[h];exact g.sl b hb⟩
theorem AC.adopt{E:AH}{objs:AF}(g:AC P E objs){n:Nat}{K:AU}{o:Obj}(hf:E.loc n=none)(ho:Aj P (E.setL E.w n K) K o)(hb:o.has K→¬E.S K.b∧¬Cd E objs K.b):AC P (E.setL E.w n K) ((n,o)::objs)∧∀(E0:AH)(imp:AF)(M:List Nat),BF E0 imp E objs M→(o.has K→E0.w.heap.size≤K.b∨Cd E0 imp K.b)→BF E0 imp (E.setL E.w n K) ((n,o)::objs) M:=by
 have hx:=OW g K hf (World.grownBy_refl' E.w);have Ab:∀{j p},AA j objs=some p→j≠n:=by rintro j p h rfl;obtain⟨L,hL,_⟩:=g.at_ _ _ h;rw[hf]at hL;cases hL
 have A4:∀j p,AA j ((n,o)::objs)=some p→j≠n∧AA j objs=some p∨j=n∧p=o:=by
  intro j p h;rw[Ay]at h;split at h;·rename_i e;exact .inr ⟨e.symm,by cases h;rfl⟩
  ·rename_i e;exact .inl ⟨λe'=>e e'.symm,h⟩
 have FS:∀b,Cd (E.setL E.w n K) ((n,o)::objs) b→Cd E objs b∨o.has K∧b=K.b:=by
  rintro b⟨j,p,L,h1,h2,h3,h4⟩;rcases A4 j p h1 with⟨hn,h⟩|⟨rfl,rfl⟩;·rw[BZ _ _ _ hn]at h2;exact .inl ⟨j,p,L,h,h2,h3,h4⟩
  ·rw[Bi]at h2;cases h2;exact .inr ⟨h3,h4.symm⟩
 refine⟨⟨λj p h=>?_,λb h hs=>?_,g.sl,g.tab,λi j p q L L' h1 h2 h3 h4 h5 h6 h7=>?_⟩,λE0 imp M st hk=>⟨⟨st.ext.S,λl L hl hL=>?_⟩,st.os,st.tape,st.output,st.size,st.frame,λb h=>(FS b h).elim (st.own b) λ⟨h1,h2⟩=>h2▸hk h1,st.st,λl h=>st.keys l (Gq h).2,λl h=>(BZ _ _ _ (Gq h).1).trans (st.dom l (Gq h).2)⟩⟩
 ·rcases A4 j p h with⟨hn,h⟩|⟨rfl,rfl⟩;·obtain⟨L,hL,ha⟩:=g.at_ j p h;exact⟨L,by rw[BZ _ _ _ hn];exact hL,ha.keep hx λ_=>rfl⟩
  ·exact⟨K,Bi _ _ _ _,ho⟩
 ·rcases FS b h with h'|⟨hh,e⟩;·exact g.ns b h' hs
  ·exact(hb hh).1 (e▸hs)
 ·rcases A4 i p h1 with⟨hi,k1⟩|⟨rfl,rfl⟩<;>rcases A4 j q h2 with⟨hj,k2⟩|⟨rfl,rfl⟩;·rw[BZ _ _ _ hi]at h3;rw[BZ _ _ _ hj]at h4;exact g.inj i j p q L L' k1 k2 h3 h4 h5 h6 h7
  ·rw[BZ _ _ _ hi]at h3;rw[Bi]at h4;cases h4;exact absurd ⟨i,p,L,k1,h3,h5,h7⟩ (hb h6).2
  ·rw[BZ _ _ _ hj]at h4;rw[Bi]at h3;cases h3;exact absurd ⟨j,q,L',k2,h4,h6,h7.symm⟩ (hb h5).2
  ·rfl
 ·by_cases e:l=n;·subst e;have :=st.ext.loc l L hl hL;rw[hf]at this;cases this
  ·rw[BZ _ _ _ e];exact st.ext.loc l L hl hL
theorem AC.remake{E:AH}{objs:AF}(g:AC P E objs){w:World}{l n:Nat}{L K:AU}{o o':Obj}{row:Option Nat}(hl:AA l objs=some o)(hL:E.loc l=some L)(hf:E.loc n=none)(hw:E.w.grownBy w row)(B2:∀b,row=some b→o.has L∧b=L.b)(ho:∀lo,Aj P ⟨w,E.S,lo⟩ K o')(hb:o'.has K→o.has L∧K.b=L.b∨E.w.heap.size≤K.b):∃E',E'.w=w∧E'.loc n=some K∧AC P E' ((n,o')::(l,.dead)::objs)∧BF E objs E' ((n,o')::(l,.dead)::objs) []:=by
 have hp:=AC.put g (mv:=false) (o':=.dead) (L':=L) hl hL hw B2 (λ_=>rfl) trivial λh=>h.elim;simp only[edit,moved]at hp;have FR:n≠l:=λe=>by subst e;rw[hf]at hL;cases hL
 have Fy:o'.has K→¬(E.setL w l L).S K.b∧¬Cd (E.setL w l L) ((l,.dead)::objs) K.b:=λhk=>by
  have hnd:∀b,Cd (E.setL w l L) ((l,.dead)::objs) b→∃j p M,j≠l∧AA j objs=some p∧E.loc j=some M∧p.has M∧M.b=b:=by
   rintro b⟨j,p,M,h1,h2,h3,h4⟩;rw[Ay]at h1;split at h1;·cases h1;exact h3.elim
   ·rename_i e;rw[BZ _ _ _ (ZAM e)]at h2;exact⟨j,p,M,ZAM e,h1,h2,h3,h4⟩
  rcases hb hk with⟨h1,h2⟩|h1;·refine⟨λhs=>g.ns K.b ⟨l,o,L,hl,hL,h1,h2.symm⟩ hs,λho=>?_⟩;obtain⟨j,p,M,k1,k2,k3,k4,k5⟩:=hnd _ ho;exact k1 (g.inj j l p o M L k2 hl k3 hL k4 h1 (k5.trans h2))
  ·refine⟨λhs=>by have h2:=g.sl _ hs;omega,λho=>?_⟩;obtain⟨j,p,M,k1,k2,k3,k4,k5⟩:=hnd _ ho;have :=g.own_lt ⟨j,p,M,k2,k3,k4,k5⟩;omega
 have ha:=AC.adopt hp.1 (n:=n) (K:=K) (o:=o') (by rw[BZ _ _ _ FR];exact hf) (ho _) Fy;refine⟨_,rfl,Bi _ _ _ _,ha.1,ha.2 E objs [] hp.2 λhk=>?_⟩;rcases hb hk with⟨h1,h2⟩|h1;·exact .inr ⟨l,o,L,hl,hL,h1,h2.symm⟩
 ·exact .inl h1
end
section
def BO(P:Program)(s:Sem Value)(E:AH)(objs:AF)(out:Ah):Prop:=∃E' v,s.run P E.w=.ok v E'.w∧AC P E' (edit objs out.ed)∧BF E objs E' (edit objs out.ed) (moved out.ed)∧Z P E' out.v v
def WC(P:Program)(s:Sem Unit)(E:AH)(objs:AF)(out:Ah):Prop:=∃E',s.run P E.w=.ok () E'.w∧AC P E' (edit objs out.ed)∧BF E objs E' (edit objs out.ed) (moved out.ed)
def CG(os objs:AF):Prop:=∀l o,AA l os=some o→AA l objs=some o
theorem AC.get{P:Program}{E:AH}{os objs:AF}(g:AC P E objs)(hs:CG os objs){l:Nat}{o:Obj}(h:AA l os=some o):∃L,E.loc l=some L∧AA l objs=some o∧Aj P E L o:=by obtain⟨L,h1,h2⟩:=g.at_ l o (hs l o h);exact⟨L,h1,hs l o h,h2⟩
variable {P : Program} {τ : Ad} {E : AH} {os objs : AF} {n : Nat}
theorem BO.same{s:Sem Value}{v:Value}{a:V}{p:Option Prop}(g:AC P E objs)(h:s.run P E.w=.ok v E.w)(r:Z P E a v):BO P s E objs ⟨p,a,none⟩:=⟨E,v,h,g,.refl _ _ _,r⟩
theorem ZT{t:TypeId}{i:TypeInfo}(h:P.info? t=some i)(w:World):(typeInfo t).run P w=.ok i w:=by simp[typeInfo,h]
theorem Gw{t:TypeId}{i:TypeInfo}(h:P.info? t=some i)(w:World):(sizeOf t).run P w=.ok i.size w:=by simp[sizeOf,ZT h]
theorem Jy{t:TypeId}{i:TypeInfo}{z:Value}(h:P.info? t=some i)(hz:i.zero=some z)(w:World):(zeroValue t).run P w=.ok z w:=by simp[zeroValue,ZT h,hz]
def XI:TypeDesc→Bool|.struct _|.array _ _=>true|_=>false
theorem TI.Ok.desc{t:TypeId}{i:TI}(h:i.Ok P t):i.k.known=true→∃d,P.underlying t=some d∧XI d=i.isAgg:=by
 have hk:=h.kind;obtain⟨k,size,bytes,zero,code⟩:=i;cases k<;>simp only[TI.isAgg]at hk⊢;case int k=>exact λ_=>⟨_,hk,rfl⟩
 case bool=>exact λ_=>⟨_,hk,rfl⟩
 case str=>exact λ_=>⟨_,hk,rfl⟩
 case sl=>exact λ_=>⟨_,hk,rfl⟩
 case arr=>exact λ_=>⟨_,hk.1,rfl⟩
 case st=>obtain⟨fs,h1,_⟩:=hk;exact λ_=>⟨_,h1,rfl⟩
 case ptr=>obtain⟨e,h1⟩:=hk;exact λ_=>⟨_,h1,rfl⟩
 case map=>exact λ_=>⟨_,hk.1,rfl⟩
 case fn=>obtain⟨_,_,_,h1⟩:=hk;exact λ_=>⟨_,h1,rfl⟩
 case other=>intro h;cases h
theorem UN{t:TypeId}{d:TypeDesc}(h:P.underlying t=some d)(w:World):(isAgg t).run P w=.ok (XI d) w:=by simp only[isAgg,ZAL,zI h,zS];cases d<;>rfl
theorem Zz{t:TypeId}{ti:TI}(ht:ti.Ok P t)(hk:ti.k.known=true)(w:World)(b off:Nat)(cs:List Value)(hl:cs.length=ti.size)(h:∀j u,cs[j]?=some u→w.cell? ⟨b,off+j,none⟩=some u)(ho:ti.isAgg=true∨cs.length=1):(loadVar t ⟨b,off,none⟩).run P w=.ok (if ti.isAgg then .agg cs.toArray else cs.getD 0 undef) w:=by
 obtain⟨d,hd,ha⟩:=ht.desc hk;obtain⟨info,z,hi,hs,_⟩:=ht.info;have hcells:=run_loadCells_list (P:=P) w ⟨b,off,none⟩ cs λj v hj=>by rw[ZAi];exact h j v hj
 cases hb:ti.isAgg with|true=>rw[hb]at ha;simp[loadVar,UN hd,ha,Gw hi,hs,←hl,hcells]|false=>rw[hb]at ha ho;have h1:cs.length=1:=ho.resolve_left (by simp);obtain⟨c,rfl⟩:=List.length_eq_one_iff.1 h1;have :=h 0 c (by simp);simp only[ZA6]at this;simp[loadVar,ZAL,UN hd,ha,zS,this]
theorem aT{agg:Bool}{cs:List V}{v:V}{vals:List Value}(h:Jj agg cs=some v)(r:AS P E cs vals):Z P E v (if agg then .agg vals.toArray else vals.getD 0 undef)∧(agg=true∨vals.length=1):=by unfold Jj at h;cases agg with|true=>simp only[ZA4,ZA5]at h⊢;subst h;exact⟨.agg (by simpa using r.1) λj hj=>by simpa using r.2 j hj,.inl trivial⟩|false=>
 simp only[zY,ZAY]at h⊢;split at h;·cases h;exact⟨by simpa using r.2 0 (by simp),.inr (by simpa using r.1)⟩
 ·cases h
theorem Oj:∀{n:Nat}{l cs:List V},I8 n l=some cs→cs=l.take n∧cs.length=n
 |0,l,cs,h=>by simp only[I8]at h;cases h;exact⟨by simp,rfl⟩|n+1,v::l,cs,h=>by
  simp only[I8]at h;split at h;·rename_i r hr;cases h;obtain⟨h1,h2⟩:=Oj hr;exact⟨by rw[ZCH,←h1],by rw[yX,h2]⟩
  ·cases h|n+1,[],cs,h=>by simp[I8]at h
theorem KH:∀(n:Nat)(l:List V),Hf n l=l.drop n|0,l=>by simp[Hf]|n+1,_::l=>by rw[Hf,KH n l,ZBW]|n+1,[]=>by simp[Hf]
theorem G3{w:World}{b:Nat}{vals:Array Value}{t:TypeId}{fr:Nat×Nat}(h:w.heap[b]?=some (.cells vals t fr))(o:Nat):w.cell? ⟨b,o,none⟩=vals[o]?:=by simp[World.cell?,h]
theorem AS.at_cells{w:World}{b:Nat}{vals:Array Value}{t:TypeId}{fr:Nat×Nat}{cs:List V}(h:w.heap[b]?=some (.cells vals t fr))(r:AS P E cs vals.toList)(off n:Nat):AS P E ((cs.drop off).take n) ((vals.toList.drop off).take n)∧∀j u,((vals.toList.drop off).take n)[j]?=some u→w.cell? ⟨b,off+j,none⟩=some u:=by
 refine⟨(r.drop off).take n,λj u hj=>?_⟩;rw[G3 h];rw[zP]at hj;split at hj;·simpa using hj
 ·cases hj
theorem Rp{L:AU}{cs:List V}(h:Aj P E L (.box cs)):∃vals t,E.w.heap[L.b]?=some (.cells vals t (0,0))∧AS P E cs vals.toList:=by obtain⟨vals,t,h1,h2,h3⟩:=h;exact⟨vals,t,h1,by simpa using h2,λj hj=>by simpa[zH,yT]using h3 j hj⟩
theorem bV{L:AU}{T:Ty}{xs:List T.den}(h:Aj P E L (.row T xs)){i:Nat}(hi:i<xs.length):∃cs,BE E.w E.S T (xs.getD i T.dflt) cs∧∀j u,cs[j]?=some u→E.w.cell? ⟨L.b,i*T.size+j,none⟩=some u:=by
 obtain⟨_,_,_,e,cs,h1,h2⟩:=h;obtain⟨c,hc,hj⟩:=h1.get i xs[i] (zK hi);rcases h2 with⟨_,rfl⟩|⟨cur,_,h3,_,_,_,_,h4⟩;·simp at hi
 ·refine⟨c,by rw[yT,zK hi];exact hc,λj u hu=>?_⟩;rw[G3 h3];have :=hj j u hu;rw[←h4,zP]at this;split at this;·simpa using this
  ·cases this
theorem QW{t:TypeId}{ti:TI}(ht:ti.Ok P t)(hk:ti.k.known=true)(g:AC P E objs){b off:Nat}{cs:List V}{vals:List Value}{a:V}{p:Option Prop}(r:AS P E cs vals)(h:∀j u,vals[j]?=some u→E.w.cell? ⟨b,off+j,none⟩=some u)(hl:cs.length=ti.size)(ha:Jj ti.isAgg cs=some a):BO P (Instr.loadAt t (.pointer (some ⟨b,off,none⟩))) E objs ⟨p,a,none⟩:=by obtain⟨r1,r2⟩:=aT ha r;have :=Zz ht hk E.w b off vals (r.1.trans hl) h r2;refine .same g (v:=if ti.isAgg then .agg vals.toArray else vals.getD 0 undef) ?_ (by split<;>simp_all);simp only[Instr.loadAt,Instr.sureAddr,ZAL,ZAo,zS,this]
theorem MY{l off:Nat}{c:Value}(r:Z P E (.ref l off) c):∃L,E.loc l=some L∧c=.pointer (some ⟨L.b,off,none⟩):=by cases r with|ref h=>exact⟨_,h,rfl⟩
theorem Mc{l i off:Nat}{c:Value}(r:Z P E (.rref l i off) c):∃L,E.loc l=some L∧c=.pointer (some ⟨L.b,i*L.esz+off,none⟩):=by cases r with|rref h=>exact⟨_,h,rfl⟩
theorem E8{l:Nat}{c:Value}(r:Z P E (.osl l) c):∃L,E.loc l=some L∧c=L.v:=by cases r with|osl h=>exact⟨_,h,rfl⟩
theorem Hw{l lo n:Nat}{c:Value}(r:Z P E (.osp l lo n) c):∃L,E.loc l=some L∧L.Part lo n c:=by cases r with|osp h hp=>exact⟨_,h,hp⟩
theorem Z4{l:Nat}{c:Value}(r:Z P E (.map l) c):∃L,E.loc l=some L∧c=.map (some L.b):=by cases r with|map h=>exact⟨_,h,rfl⟩
theorem WW{l n:Nat}{c:Value}(r:Z P E (.bsl l n) c):∃L,E.loc l=some L∧c=.slice (some ⟨L.b,0,none⟩) n n:=by cases r with|bsl h=>exact⟨_,h,rfl⟩
theorem NF{cs:List V}{c:Value}(r:Z P E (.er cs) c):∃b off vals,c=.pointer (some ⟨b,off,none⟩)∧E.S b∧AS P E cs vals∧∀j u,vals[j]?=some u→E.w.cell? ⟨b,off+j,none⟩=some u:=by cases r with|er f h1 h2 h3=>
 rename_i b off;refine⟨b,off,(List.range cs.length).map f,rfl,h1,⟨by simp,λj hj=>?_⟩,λj u hj=>?_⟩;·rw[yT (l:=List.map f _),ZAI,ZCG hj];exact h3 j hj
 ·rw[ZAI]at hj;rcases ZAn j cs.length with hl|hl;·rw[ZCG hl]at hj;simp at hj;subst hj;exact h2 j hl
  ·rw[ZAW (by simpa using hl)]at hj;simp at hj
theorem uL{L:AU}{T:Ty}{xs:List (List T.den)}{v:V}{m:Nat}(h:Aj P E L (.vrow T xs [v] m)):∃u,Z P E v u∧E.w.cell? ⟨L.b,xs.length+0,none⟩=some u:=by
 obtain⟨h1,h2,h3,e,cs,h4,h5|⟨cur,h5,h6,h7,h8,h9,BX,Db,DK,FN⟩⟩:=h;·have :=h5.2;simp at h3;omega
 ·refine⟨_,DK 0 (by simp),?_⟩;rw[G3 h6,zH,ZAN (by simp at h3;omega)];rfl
theorem kC(hτ:A6 P τ){t:TypeId}{v:V}{out:Ah}(h:Sa τ os t v=some out)(hs:CG os objs)(ho:A0 out.ob)(g:AC P E objs){c:Value}(r:Z P E v c):BO P (Instr.loadAt t c) E objs out:=by
 unfold Sa at h;split at h;·cases h
 ·rename_i ti BC;have ht:=hτ t ti BC;split at h;·cases h
  ·rename_i hk;split at h;·
    split at h
    ·rename_i cs hcs;split at h
     ·rename_i ds h1;split at h;·rename_i a h2;cases h;obtain⟨rfl,h3⟩:=Oj h1;obtain⟨L,hL,_,hat⟩:=g.get hs hcs;obtain⟨K,hK,rfl⟩:=MY r;rw[hL]at hK;cases hK;obtain⟨vals,t',h4,h5⟩:=Rp hat;rw[KH]at h2 h3;obtain⟨h6,h7⟩:=h5.at_cells h4 _ _;exact QW ht hk g h6 h7 h3 h2
      ·cases h
     ·cases h
    ·cases h
   ·rename_i cs;split at h
    ·rename_i ds h1;split at h
     ·rename_i a h2;cases h;obtain⟨rfl,h3⟩:=Oj h1;obtain⟨b,off,vals,rfl,_,h4,h5⟩:=NF r;refine QW ht hk g (h4.take _) (λj u hj=>?_) h3 h2;rw[zP]at hj;split at hj;·exact h5 j u hj
      ·cases hj
     ·cases h
    ·cases h
   ·rename_i l i off;split at h
    ·rename_i T xs hcs;split at h
     ·rename_i ds h1;split at h
      ·rename_i a h2;cases h;obtain⟨rfl,h3⟩:=Oj h1;obtain⟨L,hL,_,hat⟩:=g.get hs hcs;obtain⟨K,hK,rfl⟩:=Mc r;rw[hL]at hK;cases hK;obtain⟨cs,h4,h5⟩:=bV hat (show i<xs.length from ho);rw[hat.1];rw[KH]at h2 h3;refine QW ht hk g (((JK h4).drop off).take _) (λj u hj=>?_) h3 h2;rw[zP]at hj;split at hj;·rw[ZC0];exact h5 _ u (by simpa using hj)
       ·cases hj
      ·cases h
     ·cases h
    ·rename_i T xs s m hcs;split at h
     ·rename_i v;split at h
      ·rename_i hb;simp only[zN]at hb;split at h
       ·rename_i a h2;cases h;obtain⟨L,hL,_,hat⟩:=g.get hs hcs;obtain⟨K,hK,rfl⟩:=Mc r;rw[hL]at hK;cases hK;have hi:i=xs.length:=ho;obtain⟨u,h3,h4⟩:=uL hat;rw[yW hb.1,hat.1,ZA8,ZA6,hi];refine QW (cs:=[v]) (vals:=[u]) ht hk g ⟨rfl,λj hj=>?_⟩ (λj w hj=>?_) (yW hb.2).symm h2
        ·obtain rfl:j=0:=by simp at hj;exact hj
         exact h3
        ·have Fz:j=0:=by have :=(List.getElem?_eq_some_iff.1 hj).1;simp at this;exact this
         subst Fz;cases hj;exact h4
       ·cases h
      ·cases h
     ·cases h
    ·cases h
   ·cases h
theorem Pr(w:World)(g:Nat)(cs:Array Value):w.grownBy (w.setRow g cs) (some g):=⟨rfl,rfl,rfl,by simp,λk _ hk=>setRow_other w g k _ λe=>hk (by rw[e])⟩
theorem sW{cs new cs':List V}{off:Nat}(h:putCells cs off new=some cs'):off+new.length≤cs.length∧cs'=cs.take off++new++cs.drop (off+new.length):=by
 unfold putCells at h;split at h;·rename_i hb;cases h;exact⟨zW hb,by rw[KH,ZAO]⟩
 ·cases h
theorem AS.put{cs new cs':List V}{vals vs:List Value}{off:Nat}(h:putCells cs off new=some cs')(r:AS P E cs vals)(rn:AS P E new vs):AS P E cs' (vals.take off++vs++vals.drop (off+vs.length))∧off+vs.length≤vals.length:=by obtain⟨h1,rfl⟩:=sW h;rw[rn.1,r.1];exact⟨((r.take off).append rn).append (r.drop _),h1⟩
theorem Q3{t:TypeId}{ti:TI}(ht:ti.Ok P t)(w:World)(b off:Nat)(e:TypeId)(cur:Array Value)(v:Value)(hl:v.cells.toList.length=ti.size)(hb:w.heap[b]?=some (.cells cur e (0,0)))(CP:off+v.cells.toList.length≤cur.size)(h1:∀u∈v.cells.toList,u.oneCell'=true):(storeVar t ⟨b,off,none⟩ v).run P w=.ok () (w.setRow b (cur.toList.take off++v.cells.toList++cur.toList.drop (off+v.cells.toList.length)).toArray):=by
 obtain⟨info,z,hi,hs,_⟩:=ht.info;have BJ:=ZB6 P b off e v.cells.toList 0 cur w hb (by simpa using CP) h1;simp only[ZA6]at BJ;have :v.cells.size=ti.size:=by simpa using hl
 simp[storeVar,Gw hi,hs,this,BJ]
theorem dS{T:Ty}:∀{n:Nat}{new:List V}{ys:List T.den}{vs:List Value},Ml T n new=some ys→AS P E new vs→Aq E.w E.S T ys vs∧ys.length=n
 |0,[],ys,vs,h,r=>by simp only[Ml,ZA5]at h;subst h;exact⟨zR r.1,rfl⟩|0,_::_,ys,vs,h,r=>by simp[Ml]at h|n+1,new,ys,vs,h,r=>by
  unfold Ml at h;split at h
  ·rename_i x hx;split at h
   ·rename_i l hl;split at h;·cases h;obtain⟨h1,h2⟩:=dS hl (r.drop T.size);exact⟨⟨vs.take T.size,vs.drop T.size,(ZAx _ _).symm,GY hx (r.take T.size),h1⟩,by rw[yX,h2]⟩
    ·cases h
   ·cases h
  ·cases h
theorem VS{l:Nat}{L:AU}{T:Ty}{xs ys:List T.den}{cur':List Value}{mv:Bool}(g:AC P E objs)(hl:AA l objs=some (.row T xs))(hL:E.loc l=some L)(hat:Aj P E L (.row T xs))(C6:0<L.cap)(Dv:ys.length≤L.cap)(HM:mv=false→ys.length=xs.length)(hc:Aq E.w E.S T ys (cur'.take (ys.length*T.size)))(hlen:cur'.length=L.cap*T.size):AC P (E.setL (E.w.setRow L.b cur'.toArray) l {L with len:=ys.length}) (edit objs (some (l,.row T ys,mv)))∧BF E objs (E.setL (E.w.setRow L.b cur'.toArray) l {L with len:=ys.length}) (edit objs (some (l,.row T ys,mv))) (moved (some (l,.row T ys,mv))):=by
 obtain⟨h1,h2,h3,e,cs,h4,h5⟩:=hat;rcases h5 with h5|⟨cur,h5,h6,h7,h8,h9,BX,Db⟩;·omega
 ·have CI:(Obj.row T xs).has L:=by simp only[Obj.has];omega
  have hgr:=Pr E.w L.b cur'.toArray;have B2:∀b,some L.b=some b→(Obj.row T xs).has L∧b=L.b:=λb e=>⟨CI,by cases e;rfl⟩;have hL':mv=false→({L with len:=ys.length}:AU)=L:=λe=>by rw[HM e,←h3]
  have hS:∀b,E.S b→E.S b∧(E.w.setRow L.b cur'.toArray).heap[b]?=E.w.heap[b]?:=λb hs=>⟨hs,hgr.block b (g.sl b hs) λe=>by cases e;exact g.ns L.b ⟨l,_,L,hl,hL,CI,rfl⟩ hs⟩;refine AC.put g hl hL hgr B2 hL' ⟨h1,h2,rfl,e,_,hc.mono hS,.inr ⟨_,h5,ZDQ _ _ _ _ _ _ h6,Dv,C6,h9,?_,by simp⟩⟩ λ_=>.inl ⟨CI,rfl⟩;simpa using hlen
theorem kJ(hτ:A6 P τ){t:TypeId}{a x:V}{out:Ah}(h:Si τ os t a x=some out)(hs:CG os objs)(ho:A0 out.ob)(g:AC P E objs){c d:Value}(ra:Z P E a c)(rx:Z P E x d):WC P (Instr.storeAt t c d) E objs out∧out.v=.tup []:=by
 unfold Si at h;split at h;·cases h
 ·rename_i ti BC;have ht:=hτ t ti BC;split at h;·cases h
  ·rename_i new BG;obtain⟨rn,Iu⟩:=Qv BG rx;split at h;·cases h
   ·rename_i Ae;have hl:d.cells.toList.length=ti.size:=rn.1.trans (yW Ae);split at h
    ·rename_i l off;split at h
     ·rename_i cs hcs;split at h;·rename_i cs' h1;cases h;obtain⟨L,hL,AZ,hat⟩:=g.get hs hcs;obtain⟨K,hK,rfl⟩:=MY ra;rw[hL]at hK;cases hK;obtain⟨vals,t',h4,h5⟩:=Rp hat;obtain⟨h6,h7⟩:=h5.put h1 rn;have hrun:=Q3 ht E.w _ off t' vals d hl h4 (by simpa using h7) Iu;have hgr:=Pr E.w L.b (vals.toList.take off++d.cells.toList++vals.toList.drop (off+d.cells.toList.length)).toArray;have B2:∀b,some L.b=some b→(Obj.box cs).has L∧b=L.b:=λb e=>⟨trivial,by cases e;rfl⟩;have hx:=K4 g (M:=[]) AZ hL hgr B2 λ_=>rfl;have h8:=h6.mono hx;have BG:=AC.put g (mv:=false) (o':=.box cs') AZ hL hgr B2 (λ_=>rfl) ⟨_,t',ZDQ _ _ _ _ _ _ h4,by simpa using h8.1,λj hj=>by simpa[zH,yT]using h8.2 j hj⟩ λ_=>.inl ⟨trivial,rfl⟩;exact⟨⟨_,by simp only[Instr.storeAt,Instr.sureAddr,ZAL,ZAo,zS];exact hrun,BG.1,BG.2⟩,rfl⟩
      ·cases h
     ·cases h
    ·rename_i l i off;split at h
     ·rename_i T xs hcs;obtain⟨L,hL,AZ,hat⟩:=g.get hs hcs;obtain⟨K,hK,rfl⟩:=Mc ra;rw[hL]at hK;cases hK;have IB:=hat;obtain⟨C7,Ag,hlen,e,cs,h9,BX⟩:=hat;split at h;·
       rename_i n e0 hk;split at h
       ·rename_i Nj;simp only[zN]at Nj;obtain⟨h0,lN⟩:=Nj;obtain rfl:=yW h0;obtain rfl:=yW lN;split at h
        ·rename_i ys h1;cases h;obtain⟨h2,h3⟩:=dS h1 rn;have hn:n=xs.length:=ho;have oG:0<n:=by have :=ht.kind;rw[hk]at this;obtain⟨_,_,_,_,_,_,_,h,_⟩:=this;exact h
         rcases BX with⟨_,rfl⟩|⟨cur,Cv,Cl,Hv,IS,MJ,IT,IU⟩;·simp at hn;omega
         ·have TE:=h2.length;rw[h3,hn]at TE;have C6:xs.length*T.size≤L.cap*T.size:=ZAQ _ Hv;have CP:0+d.cells.toList.length≤cur.size:=by rw[IT,TE];omega
          have hrun:=Q3 ht E.w _ 0 e cur d hl Cl CP Iu;have BG:=VS (mv:=false) (ys:=ys) (cur':=cur.toList.take 0++d.cells.toList++cur.toList.drop (0+d.cells.toList.length)) g AZ hL IB IS (by omega) λ_=>by omega (by rw[h3,hn,ZCv,ZAk,←TE,ZCu];exact h2) (by simp only[yU,zG,ZAF,zT]at CP⊢;omega);exact⟨⟨_,by simp only[Instr.storeAt,Instr.sureAddr,ZAL,ZAo,zS,ZCP,ZA6]at hrun⊢;exact hrun,BG.1,BG.2⟩,rfl⟩
        ·cases h
       ·cases h
      ·split at h
       ·rename_i cs' h1;split at h
        ·rename_i y h2;cases h;have hi:i<xs.length:=ho;obtain⟨ce,h4,h5⟩:=bV IB hi;obtain⟨h6,h7⟩:=(JK h4).put h1 rn;have h8:=GY h2 h6;have xL:=h4.length;rcases BX with⟨_,rfl⟩|⟨cur,Cv,Cl,Hv,IS,MJ,IT,IU⟩;·simp at hi
         ·have hmul:i*T.size+T.size≤xs.length*T.size:=by rw[←ZAd];exact ZAQ _ hi
          have C6:xs.length*T.size≤L.cap*T.size:=ZAQ _ Hv;have CP:i*T.size+off+d.cells.toList.length≤cur.size:=by rw[IT];omega
          have hrun:=Q3 ht E.w _ (i*T.size+off) e cur d hl Cl CP Iu;have HQ:=Gx (A:=cur.toList) (vs:=d.cells.toList) (o:=i*T.size+off) (by simpa using CP);have pD:=Gx (A:=ce) (vs:=d.cells.toList) (o:=off) h7;have Db:Aq E.w E.S T (xs.set i y) ((cur.toList.take (i*T.size+off)++d.cells.toList++cur.toList.drop (i*T.size+off+d.cells.toList.length)).take (xs.length*T.size)):=by
           refine Aq.of_get (by simp only[zG,yU,ZAF,ZCI,zT];omega) λi' x hx'=>?_;rw[ZC3]at hx';split at hx'
           ·rename_i DL;subst DL;have MN:y=x:=by simpa[hi]using hx'
            subst MN;refine⟨_,h8,λj u hu=>?_⟩;have Gt:j<T.size:=by have :=(List.getElem?_eq_some_iff.1 hu).1;have :=h8.length;omega
            rw[zP,yS (by omega),HQ];rw[pD]at hu;by_cases c1:j<off;·rw[yS c1]at hu;rw[yS (by omega)];have :=h5 j u hu;rw[G3 Cl]at this;simpa using this
            ·rw[yP c1]at hu;rw[yP (by omega)];by_cases c2:j<off+d.cells.toList.length;·rw[yS c2]at hu;rw[yS (by omega),show i*T.size+j-(i*T.size+off)=j-off from by omega];exact hu
             ·rw[yP c2]at hu;rw[yP (by omega)];have :=h5 j u hu;rw[G3 Cl]at this;simpa using this
           ·rename_i DL;obtain⟨c,hc,hj⟩:=h9.get i' x hx';have hi':i'<xs.length:=(List.getElem?_eq_some_iff.1 hx').1;have hcl:=hc.length;refine⟨c,hc,λj u hu=>?_⟩;have Gt:j<T.size:=by have :=(List.getElem?_eq_some_iff.1 hu).1;omega
            have hm':i'*T.size+T.size≤xs.length*T.size:=by rw[←ZAd];exact ZAQ _ hi'
            have Ab:i'*T.size+T.size≤i*T.size∨i*T.size+T.size≤i'*T.size:=by
             rcases ZAn i' i with AY|Dc;·left;rw[←ZAd];exact ZAQ _ AY
             ·right;rw[←ZAd];exact ZAQ _ (by omega)
            have DK:=hj j u hu;rw[←IU,zP,yS (by omega)]at DK;rw[zP,yS (by omega),HQ];rcases Ab with Ab|Ab;·rw[yS (by omega)];exact DK
            ·rw[yP (by omega),yP (by omega)];exact DK
          have BG:=VS (mv:=false) (ys:=xs.set i y) (cur':=cur.toList.take (i*T.size+off)++d.cells.toList++cur.toList.drop (i*T.size+off+d.cells.toList.length)) g AZ hL IB IS (by simpa using Hv) λ_=>by simp (by simpa using Db) (by simp only[yU,zG,ZAF,zT]at CP⊢;omega);exact⟨⟨_,by rw[C7];simp only[Instr.storeAt,Instr.sureAddr,ZAL,ZAo,zS];exact hrun,BG.1,BG.2⟩,rfl⟩
        ·cases h
       ·cases h
     ·rename_i T xs s m hcs;split at h
      ·rename_i v0;split at h
       ·rename_i v;split at h
        ·rename_i Nu;cases h;have Nu:=yW Nu;subst Nu;have hi:i=xs.length:=ho;subst hi;obtain⟨L,hL,AZ,hat⟩:=g.get hs hcs;obtain⟨K,hK,rfl⟩:=Mc ra;rw[hL]at hK;cases hK;obtain⟨C7,h2,hlen,e,cs,h4,h5|⟨cur,h5,h6,h7,h8,h9,BX,Db,DK,FN⟩⟩:=hat;·have :=h5.2;simp at hlen;omega
         ·have II:d.cells.toList.length=1:=rn.1;have C8:d.cells.size=1:=by simpa using II
          have AY:xs.length<cur.size:=by simp at hlen;omega
          have hrun:=Q3 ht E.w _ xs.length e cur d hl h6 (by omega) Iu;have hgr:=Pr E.w L.b (cur.toList.take xs.length++d.cells.toList++cur.toList.drop (xs.length+d.cells.toList.length)).toArray;have CI:(Obj.vrow T xs [v0] m).has L:=by simp only[Obj.has];omega
          have B2:∀b,some L.b=some b→(Obj.vrow T xs [v0] m).has L∧b=L.b:=λb e=>⟨CI,by cases e;rfl⟩;have hx:=K4 g (M:=[]) AZ hL hgr B2 λ_=>rfl;have HQ:=Gx (A:=cur.toList) (vs:=d.cells.toList) (o:=xs.length) (by simp;omega);have BG:=AC.put g (mv:=false) (o':=.vrow T xs [v] m) AZ hL hgr B2 (λ_=>rfl) ⟨C7,h2,hlen,e,cs,h4.mono hx.S,.inr ⟨_,h5,ZDQ _ _ _ _ _ _ h6,h7,h8,h9,by simp only[ZAy,yU,zG,ZAF,zT];omega,by
           rw[←Db];apply ZAZ;intro j;rw[zP,zP];split;·rename_i hj;rw[HQ,yS hj]
           ·rfl,λj hj=>by
           have Fz:j=0:=by simp at hj;exact hj
           subst Fz;have h3:=(rn.2 0 (by simp)).mono hx;rw[zH,←ZAR,HQ,yP (by omega),yS (by omega)];simpa[yT]using h3,λj hj hj2=>by have hj:xs.length+1≤j:=hj;rw[←ZAR,HQ,yP (by omega),yP (by omega),ZAR];exact FN j hj hj2⟩⟩ λ_=>.inl ⟨CI,rfl⟩;exact⟨⟨_,by rw[C7];simp only[Instr.storeAt,Instr.sureAddr,ZAL,ZAo,zS,ZA8,ZA6];exact hrun,BG.1,BG.2⟩,rfl⟩
        ·cases h
       ·cases h
      ·cases h
     ·cases h
    ·cases h
theorem jY(hτ:A6 P τ){s:TypeId}{v:V}{f:Nat}{out:Ah}(h:SV τ os s v f=some out)(g:AC P E objs){c:Value}(r:Z P E v c):BO P (Instr.fieldAt s c f) E objs out:=by
 unfold SV at h;split at h
 ·rename_i offs size bytes zero code hs;have ht:=(hτ s _ hs).kind;obtain⟨fs,h1,h2,h3⟩:=ht;split at h
  ·rename_i o sz ho';have MH:=h3 (o,sz) (ZBI ho');have Tg:∃fl,fs[f]?=some fl∧fl.offset=o∧P.cellsOf fl.type=sz:=by rw[←h2]at ho';simp only[ZAI,ZAA,ZBM]at ho';obtain⟨fl,h4,h5,h6⟩:=ho';exact⟨fl,by simpa using h4,h5,h6⟩
   obtain⟨fl,hf,Nu,hcs⟩:=Tg;obtain⟨fi,Ls,hfz⟩:∃i,P.info? fl.type=some i∧i.size≠0:=by cases hq:P.info? fl.type with|none=>simp[Program.cellsOf,hq]at hcs;exact absurd hcs.symm MH|some i=>simp[Program.cellsOf,hq]at hcs;exact⟨i,rfl,λe=>MH (by simpa[←hcs]using e)⟩
   have hrun:∀b off,(Instr.fieldAt s (.pointer (some ⟨b,off,none⟩)) f).run P E.w=.ok (.pointer (some ⟨b,off+o,none⟩)) E.w:=by intro b off;simp[Instr.fieldAt,zI h1,hf,Instr.sureAddr,fieldPlace,Gw Ls,hfz,ZAi,Nu]
   split at h;·cases h;obtain⟨L,hL,rfl⟩:=MY r;exact .same g (hrun _ _) (.ref hL)
   ·cases h;cases r with|er fc h4 h5 h6=>
    rename_i cs b off;refine .same g (hrun _ _) ?_;rw[KH];refine .er (λj=>fc (o+j)) h4 (λj hj=>?_) λj hj=>?_;·simp only[ZAF]at hj;rw[ZC0];exact h5 _ (by omega)
    ·simp only[ZAF]at hj;have :=h6 (o+j) (by omega);simpa[yT]using this
   ·cases h;obtain⟨L,hL,rfl⟩:=Mc r;refine .same g (hrun _ _) ?_;rw[ZC0];exact .rref hL
   ·cases h
  ·cases h
 ·cases h
theorem Jq{T:Ty}{l:List T.den}{c:Value}(r:Z P E (.d (.sl T) l) c):BE E.w E.S (.sl T) l [c]:=by cases r with|d h=>exact h
theorem gW{T:Ty}{x:T.den}{b off:Nat}{cs:List Value}(hb:E.S b)(h:BE E.w E.S T x cs)(hc:∀j u,cs[j]?=some u→E.w.cell? ⟨b,off+j,none⟩=some u):Z P E (.er (FL T x)) (.pointer (some ⟨b,off,none⟩)):=by
 have r:=JK (P:=P) h;refine .er (λj=>cs.getD j undef) hb (λj hj=>?_) λj hj=>r.2 j hj;have hj':j<cs.length:=by rw[r.1];exact hj
 exact hc j _ (by simp[yT,zK hj'])
theorem N6{t e:TypeId}{ei:TI}(ht:P.underlying t=some (.slice e))(hei:ei.Ok P e){b off n cap:Nat}{k:IntKind}{i:Int}(w:World)(h0:0≤i)(h1:i<(n:Int)):(Instr.indexAt t (.slice (some ⟨b,off,none⟩) n cap) (.int k i)).run P w=.ok (.pointer (some ⟨b,off+i.toNat*ei.size,none⟩)) w:=by obtain⟨info,z,hi,hs,_⟩:=hei.info;simp[Instr.indexAt,asIntOf,zI ht,h0,h1,Gw hi,hs,ZAi]
theorem Qk{L:AU}{T:Ty}{xs:List T.den}(h:Aj P E L (.row T xs)){lo n:Nat}(h1:lo+n≤xs.length)(h2:0<n){c:Value}(hp:L.Part lo n c):c=.slice (some ⟨L.b,lo*T.size,none⟩) n (L.cap-lo):=by
 obtain⟨a,rfl,ha⟩:=hp;obtain⟨C7,Ag,hlen,e',cs,h9,BX⟩:=h;rcases BX with⟨_,rfl⟩|⟨cur,Cv,Cl,Hv,_⟩;·simp at h1;omega
 ·have :L.cap≠lo:=by omega
  rw[ha this];simp[Cv,C7,ZAi]
theorem jZ(hτ:A6 P τ){t:TypeId}{x ix:V}{out:Ah}(h:SX τ os t x ix=some out)(hs:CG os objs)(ho:A0 out.ob)(g:AC P E objs){c d:Value}(rx:Z P E x c)(ri:Z P E ix d):BO P (Instr.indexAt t c d) E objs out:=by
 unfold SX at h;split at h
 ·rename_i e size bytes zero code BC;have ht:P.underlying t=some (.slice e):=(hτ t _ BC).kind;split at h
  ·rename_i k i0;obtain⟨i,hi0⟩:∃i:Int,i=i0:=⟨i0,rfl⟩;subst hi0;have hd:=ri.int_inv;subst hd;split at h
   ·rename_i ei hei;have hei:=hτ e ei hei;split at h
    ·rename_i T l;split at h
     ·rename_i Ae;have Ae:=yW Ae;cases h;obtain⟨h0,h1⟩:0≤i∧i<(List.length (α:=T.den) l:Int):=ho;obtain⟨a,cap,hc,C6,hl⟩:=Jq rx;have hc':c=.slice a (List.length (α:=T.den) l) cap:=by simpa using hc
      subst hc';have AY:i.toNat<List.length (α:=T.den) l:=by omega
      obtain⟨b,off,rfl,hS,hx⟩:=hl λe=>by rw[e]at AY;simp at AY
      obtain⟨cs,h2,h3⟩:=hx i.toNat (List.getD (α:=T.den) l i.toNat T.dflt) (by rw[yT,zK AY];rfl);refine .same g (N6 ht hei E.w h0 h1) ?_;rw[←Ae];exact gW hS h2 h3
     ·cases h
    ·rename_i l;split at h
     ·rename_i T xs hcs;split at h
      ·rename_i Ae;have Ae:=yW Ae;cases h;obtain⟨h0,h1⟩:0≤i∧i<(xs.length:Int):=ho;obtain⟨L,hL,_,hat⟩:=g.get hs hcs;obtain⟨K,hK,rfl⟩:=E8 rx;rw[hL]at hK;cases hK;obtain⟨C7,Ag,hlen,e',cs,h9,BX⟩:=id hat;rcases BX with⟨_,rfl⟩|⟨cur,Cv,Cl,_⟩;·simp at h1;omega
       ·unfold AU.v;rw[Cv,hlen];refine .same g (N6 ht hei E.w h0 h1) ?_;rw[ZAJ,←Ae,←C7];exact .rref hL
      ·cases h
     ·rename_i T xs s m hcs;split at h
      ·rename_i Ae;have Ae:=yW Ae;split at h;·cases h
       ·rename_i v vs;cases h;obtain⟨h0,h1⟩:0≤i∧i<((xs.length+1+m:Nat):Int):=ho;obtain⟨L,hL,_,hat⟩:=g.get hs hcs;obtain⟨K,hK,rfl⟩:=E8 rx;rw[hL]at hK;cases hK;obtain⟨C7,C8,hlen,e',cs,h9,BX⟩:=id hat;have hlen:L.len=xs.length+1+m:=by rw[hlen];simp only[yX]at C8⊢;omega
        rcases BX with⟨_,BX⟩|⟨cur,Cv,Cl,_⟩;·omega
        ·unfold AU.v;rw[Cv,hlen];refine .same g (N6 ht hei E.w h0 h1) ?_;rw[ZAJ,Ae,←C7];exact .rref hL
      ·cases h
     ·cases h
    ·rename_i l lo m;split at h
     ·rename_i T xs hcs;split at h;·rename_i Ae;have Ae:=yW Ae;cases h;obtain⟨h0,h1,h2⟩:0≤i∧i<(m:Int)∧lo+m≤xs.length:=ho;obtain⟨L,hL,_,hat⟩:=g.get hs hcs;obtain⟨K,hK,hp⟩:=Hw rx;rw[hL]at hK;cases hK;rw[Qk hat h2 (by omega) hp];refine .same g (N6 ht hei E.w h0 h1) ?_;rw[←Ae,←ZBQ,←hat.1];exact .rref hL
      ·cases h
     ·cases h
    ·rename_i l m;split at h
     ·rename_i j;split at h;·rename_i hb;simp only[zN]at hb;cases h;obtain⟨L,hL,rfl⟩:=WW rx;have AY:j<m:=ZA0 (Nat.lt_succ_self j) (zW hb.1);refine .same g (N6 ht hei E.w (Int.natCast_nonneg j) (by simpa using Int.ofNat_lt.2 AY)) ?_;rw[yW hb.2];simpa using Z.ref hL
      ·cases h
     ·cases h
    ·split at h;·cases h;exact ho.elim
     ·cases h
    ·cases h
   ·cases h
  ·cases h
 ·rename_i m e size bytes zero code BC;have ht:P.underlying t=some (.array m e):=(hτ t _ BC).kind.1;split at h
  ·rename_i k i0;obtain⟨i,hi0⟩:∃i:Int,i=i0:=⟨i0,rfl⟩;subst hi0;have hd:=ri.int_inv;subst hd;split at h
   ·rename_i ei hei;have hei:=hτ e ei hei;split at h
    ·rename_i l;split at h
     ·rename_i T xs hcs;split at h
      ·rename_i Ae;have Ae:=yW Ae;cases h;obtain⟨h0,h1⟩:0≤i∧i<(m:Int):=ho;obtain⟨L,hL,_,hat⟩:=g.get hs hcs;obtain⟨K,hK,rfl⟩:=Mc rx;rw[hL]at hK;cases hK;obtain⟨info,z,hi,hs',_⟩:=hei.info;refine .same (v:=.pointer (some ⟨L.b,i.toNat*T.size,none⟩)) g ?_ ?_;·simp[Instr.indexAt,asIntOf,zI ht,h0,h1,Gw hi,hs',ZAi,Instr.sureAddr,Ae]
       ·rw[←hat.1];exact .rref hL
      ·cases h
     ·cases h
    ·cases h
   ·cases h
  ·cases h
 ·cases h
end
section
variable {P : Program} {τ : Ad} {E : AH} {os objs : AF} {n : Nat}
theorem NG{k:IntKind}{n:Int}(h:AB k n):k.wrap n=n:=by
 cases k;·exact IntWalk.i8_in n h
 ·exact IntWalk.i16_in n h
 ·exact IntWalk.i32_in n h
 ·exact IntWalk.i64_in n h
 ·exact IntWalk.u8_in n h
 ·exact IntWalk.u16_in n h
 ·exact IntWalk.u32_in n h
 ·exact IntWalk.u64_in n h
theorem Ow{k:IntKind}{n:Int}(h:A0 (wr k n).ob):∃c,c=Value.int k (k.wrap n)∧∀E,Z P E (wr k n).v c:=by
 refine⟨_,rfl,λE=>?_⟩;unfold wr at h⊢;split;·rename_i hs;simp only[hs]at h;rw[NG h];exact .mk_int _ _
 ·exact .mk_int _ _
theorem wF{k:IntKind}{p:Prop}{n:Int}(h:A0 (Mn k p n).ob):p∧∃c,c=Value.int k (k.wrap n)∧∀E,Z P E (Mn k p n).v c:=by
 unfold Mn at h⊢;split;·rename_i hs;simp only[hs]at h;exact⟨h.1,_,rfl,λE=>by rw[NG h.2];exact .mk_int _ _⟩
 ·rename_i hs;simp only[hs]at h;exact⟨h,_,rfl,λE=>.mk_int _ _⟩
theorem wD{wm:Bool}{k:IntKind}{n:Int}(h:A0 (Ov wm k n).ob):∃c,c=Value.int k (k.wrap n)∧∀E,Z P E (Ov wm k n).v c:=by cases wm with|true=>exact⟨_,rfl,λE=>.mk_int _ _⟩|false=>exact Ow h
theorem wC(wm:Bool)(k:IntKind)(n:Int):(Ov wm k n).ed=none:=by cases wm<;>(simp only[Ov];try unfold wr;try split)<;>rfl
theorem RI(k:IntKind)(n:Int):(wr k n).ed=none:=by unfold wr;split<;>rfl
theorem wE(k:IntKind)(p:Prop)(n:Int):(Mn k p n).ed=none:=by unfold Mn;split<;>rfl
theorem BO.same'{s:Sem Value}{v:Value}{out:Ah}(g:AC P E objs)(he:out.ed=none)(h:s.run P E.w=.ok v E.w)(r:Z P E out.v v):BO P s E objs out:=by obtain⟨ob,a,ed⟩:=out;cases he;exact .same g h r
theorem kA{wm:Bool}{op:BinOp}{k:IntKind}{a b:Int}{r:Ah}(h:SY wm op k a b=some r)(ho:A0 r.ob)(xt:TypeId)(w:World)(hs:op≠.shl∧op≠.shr):r.ed=none∧∃c,(binOp op xt (.int k a) (.int k b)).run P w=.ok c w∧∀E,Z P E r.v c:=by
 cases op<;>simp only[SY,ZA5,reduceCtorEq]at h<;>try subst h
 case add=>obtain⟨c,rfl,hc⟩:=wD (P:=P) ho;exact⟨wC _ _ _,_,by simp[binOp,Op.intArith],hc⟩
 case sub=>obtain⟨c,rfl,hc⟩:=Ow (P:=P) ho;exact⟨RI _ _,_,by simp[binOp,Op.intArith],hc⟩
 case mul=>obtain⟨c,rfl,hc⟩:=Ow (P:=P) ho;exact⟨RI _ _,_,by simp[binOp,Op.intArith],hc⟩
 case quo=>obtain⟨hb,c,rfl,hc⟩:=wF (P:=P) ho;exact⟨wE _ _ _,_,by simp[binOp,Op.intDiv,hb],hc⟩
 case rem=>exact⟨rfl,_,by simp[binOp,Op.intDiv,show b≠0 from ho],λE=>.mk_int _ _⟩
 case eql=>exact⟨rfl,_,by simp[binOp,Op.intCmp],λE=>.mk_bool _⟩
 case neq=>exact⟨rfl,_,by simp[binOp,Op.intCmp],λE=>.mk_bool _⟩
 case lss=>exact⟨rfl,_,by simp[binOp,Op.intCmp],λE=>.mk_bool _⟩
 case leq=>exact⟨rfl,_,by simp[binOp,Op.intCmp],λE=>.mk_bool _⟩
 case gtr=>exact⟨rfl,.bool (decide (b<a)),by simp[binOp,Op.intCmp],λE=>.mk_bool _⟩
 case geq=>exact⟨rfl,.bool (decide (b≤a)),by simp[binOp,Op.intCmp],λE=>.mk_bool _⟩
 case and=>exact⟨rfl,_,by simp[binOp,Op.intBits],λE=>.mk_int _ _⟩
 case or=>exact⟨rfl,_,by simp[binOp,Op.intBits],λE=>.mk_int _ _⟩
theorem LY(op:BinOp)(t:TypeId)(x y:Operand){a b:Value}(ha:a.oneCell'=true)(hn:a≠.nilIface)(w:World):(eqGuard op t x y a b).run P w=.ok () w:=by unfold eqGuard;cases op<;>(first|(simp;done)|(cases a<;>first|(simp[Value.oneCell']at ha;done)|(exact absurd rfl hn)|(simp;done)))
theorem Sl(op:BinOp)(t:TypeId)(x y:Operand)(k:IntKind)(a:Int)(b:Value)(w:World):(eqGuard op t x y (.int k a) b).run P w=.ok () w:=LY op t x y rfl (by simp) w
theorem Sr{t:TypeId}{x y:Value}{w:World}{r:Result Bool}(h:∀d,(Op.equalIn (d+1) t x y).run P w=r):(Op.equal t x y).run P w=r:=h 9999
theorem Xc{t:TypeId}(h:P.underlying t=some .bool)(a b:Bool)(w:World):(Op.equal t (.bool a) (.bool b)).run P w=.ok (a==b) w:=Sr λd=>by simp only[Op.equalIn,ZAL,zI h,zS,ZAo]
theorem kO{t e:TypeId}(h:P.underlying t=some (.pointer e))(q:Option Addr)(w:World):(Op.equal t (.pointer q) (.pointer none)).run P w=.ok q.isNone w:=Sr λd=>by cases q<;>simp only[Op.equalIn,ZAL,zI h,zS,ZAo,Option.isNone]
theorem Ro{t:TypeId}{x y:Value}{b:Bool}{w:World}(h:(Op.equal t x y).run P w=.ok b w)(hs:(∃a c,x=.bool a∧y=.bool c)∨∃a c,x=.pointer a∧y=.pointer c):(binOp .eql t x y).run P w=.ok (.bool b) w∧(binOp .neq t x y).run P w=.ok (.bool !b) w:=by rcases hs with⟨a,c,rfl,rfl⟩|⟨a,c,rfl,rfl⟩<;>simp only[binOp,ZAL,h,zS,ZAo,and_self]
theorem jR(hτ:A6 P τ){op:BinOp}{xt:TypeId}{ox oy:Operand}{x y:V}{out:Ah}(h:SL τ op xt x y=some out)(ho:A0 out.ob)(g:AC P E objs){c d:Value}(rx:Z P E x c)(ry:Z P E y d):BO P (do eqGuard op xt ox oy c d;binOp op xt c d) E objs out:=by
 unfold SL at h;split at h
 ·rename_i k a0;obtain⟨a,GN⟩:∃a:Int,a=a0:=⟨a0,rfl⟩;subst GN;have hc:=rx.int_inv;subst hc;split at h
  ·rename_i k' b0;obtain⟨b,IC⟩:∃b:Int,b=b0:=⟨b0,rfl⟩;subst IC;have hd:=ry.int_inv;subst hd;split at h;·cases h;have ho:0≤b:=ho;exact .same g (v:=.int k (k.wrap (a*2^min b.toNat k.bits))) (by have hb:¬(b:Int)<0:=Int.not_lt.mpr ho;simp[Sl,binOp,Op.shift,hb]) (.mk_int _ _)
   ·cases h;have ho:0≤b:=ho;exact .same g (v:=.int k (a.fdiv (2^min b.toNat k.bits))) (by have hb:¬(b:Int)<0:=Int.not_lt.mpr ho;simp[Sl,binOp,Op.shift,hb]) (.mk_int _ _)
   ·rename_i n1 n2;split at h;·rename_i hk;have hk:=UK hk;subst hk;obtain⟨h1,c,h2,h3⟩:=kA (P:=P) h ho xt E.w ⟨λe=>by subst e;exact(n1 rfl).elim,λe=>by subst e;exact(n2 rfl).elim⟩;exact .same' g h1 (by simp only[ZAL,Sl,zS];exact h2) (h3 E)
    ·cases h
  ·cases h
 ·rename_i a0;obtain⟨a,GN⟩:∃a:Bool,a=a0:=⟨a0,rfl⟩;subst GN;have hc:=rx.bool_inv;subst hc;split at h
  ·rename_i b0;obtain⟨b,IC⟩:∃b:Bool,b=b0:=⟨b0,rfl⟩;subst IC;have hd:=ry.bool_inv;subst hd;split at h
   ·rename_i sz by_ ze co hs;have ht:P.underlying xt=some .bool:=(hτ xt _ hs).kind;split at h;·cases h;exact .same g (v:=.bool (a==b)) (by simp only[ZAL,LY _ _ _ _ (show(Value.bool a).oneCell'=true from rfl) (by simp),zS];exact(Ro (Xc ht a b E.w) (.inl ⟨a,b,rfl,rfl⟩)).1) (.mk_bool _)
    ·cases h;exact .same g (v:=.bool (a !=b)) (by simp only[ZAL,LY _ _ _ _ (show(Value.bool a).oneCell'=true from rfl) (by simp),zS];exact(Ro (Xc ht a b E.w) (.inl ⟨a,b,rfl,rfl⟩)).2) (.mk_bool _)
    ·cases h
   ·cases h
  ·cases h
 ·split at h
  ·cases ry;split at h
   ·rename_i sz by_ ze co hs;obtain⟨e,ht⟩:∃e,P.underlying xt=some (.pointer e):=(hτ xt _ hs).kind;have key:∀(b:Bool)(q:Option Addr),c=.pointer q→q.isNone=b→NC op b=some out→BO P (do eqGuard op xt ox oy c (.pointer none);binOp op xt c (.pointer none)) E objs out:=by
     intro b q hq hb h;subst hq;subst hb;have heq:=Ro (kO ht q E.w) (.inr ⟨_,_,rfl,rfl⟩);unfold NC at h;split at h;·cases h;exact .same g (by simp only[ZAL,LY _ _ _ _ (show(Value.pointer q).oneCell'=true from rfl) (by simp),zS];exact heq.1) (.mk_bool _)
     ·cases h;exact .same g (by simp only[ZAL,LY _ _ _ _ (show(Value.pointer q).oneCell'=true from rfl) (by simp),zS];exact heq.2) (.mk_bool _)
     ·cases h
    split at h;·cases rx;exact key true none rfl rfl h
    ·obtain⟨b,off,vals,rfl,_⟩:=NF rx;exact key false _ rfl rfl h
    ·cases rx with|opt h1 h2=>rename_i b _ _ _;cases b with|true=>obtain⟨b,off,vals,rfl,_⟩:=NF (h1 rfl);exact key false _ rfl rfl h|false=>exact key true none (h2 rfl) rfl h
    ·cases h
   ·cases h
  ·cases h
theorem kK{op:UnOp}{x:V}{out:Ah}(h:Sj op x=some out)(ho:A0 out.ob)(g:AC P E objs){c:Value}(rx:Z P E x c):BO P (Op.unary op c) E objs out:=by
 unfold Sj at h;split at h
 ·split at h;·rename_i k n;cases h;have hc:=rx.int_inv;subst hc;obtain⟨c,rfl,hc⟩:=Ow (P:=P) ho;exact .same' g (RI _ _) (by simp[Op.unary,Op.intArith]) (hc E)
  ·cases h
 ·split at h;·cases h;have hc:=rx.bool_inv;subst hc;exact .same g (by simp[Op.unary]) (.mk_bool _)
  ·cases h
 ·cases h
theorem XS{mx:Bool}{x y:V}{out:Ah}(h:Pc mx x y=some out)(g:AC P E objs){c d:Value}(rx:Z P E x c)(ry:Z P E y d)(ts:Array TypeId)(t:TypeId):BO P (if mx then Builtin.max_ ts t #[c,d]else Builtin.min_ ts t #[c,d]) E objs out:=by
 unfold Pc at h;split at h
 ·rename_i k a0;obtain⟨a,GN⟩:∃a:Int,a=a0:=⟨a0,rfl⟩;subst GN;have hc:=rx.int_inv;subst hc;split at h
  ·rename_i k' b0;obtain⟨b,IC⟩:∃b:Int,b=b0:=⟨b0,rfl⟩;subst IC;have hd:=ry.int_inv;subst hd;split at h
   ·rename_i hk;have hk:=UK hk;subst hk;have e1:(max a b:Int)=if b>a then b else a:=by omega
    have e2:(min a b:Int)=if b<a then b else a:=by omega
    split at h;·cases h;exact .same g (v:=.int k (max a b)) (by rw[e1];simp[Builtin.max_,Builtin.max2]) (.mk_int _ _)
    ·cases h;exact .same g (v:=.int k (min a b)) (by rw[e2];simp[Builtin.min_,Builtin.min2]) (.mk_int _ _)
   ·cases h
  ·cases h
 ·cases h
theorem PB{v:V}{p:Option Prop}{b:Bool}{c:Value}(h:PA v=some (p,b))(hp:A0 p)(r:Z P E v c):c=.bool b:=by
 unfold PA at h;split at h;·cases h;exact r.bool_inv
 ·cases h;cases r with|when h1 h2=>exact(h1 hp).bool_inv
 ·cases h
theorem U6{c:Bool}{p q:Option Prop}(h:A0 (Qn c p q)):(c=true→A0 p)∧(c=false→A0 q):=by
 cases p<;>cases q;·exact⟨λ_=>trivial,λ_=>trivial⟩
 ·exact⟨λ_=>trivial,h⟩
 ·exact⟨h,λ_=>trivial⟩
 ·exact h
theorem kH{oa ob:Operand}{c x y:V}{out:Ah}(h:Sg oa ob c x y=some out)(ho:A0 out.ob)(g:AC P E objs){c' x' y':Value}(rc:Z P E c c')(rx:Z P E x x')(ry:Z P E y y')(hx:∀b,oa=.const (.bool b)→x'=.bool b)(hy:∀b,ob=.const (.bool b)→y'=.bool b):BO P (do pure (if←Go.asBool c' then x' else y')) E objs out:=by
 unfold Sg at h;split at h
 ·rename_i c0;obtain⟨c,CH⟩:∃c:Bool,c=c0:=⟨c0,rfl⟩;subst CH;have hc:=rc.bool_inv;subst hc;split at h
  ·rename_i gx x h2;split at h
   ·rename_i gy y h3;split at h;·cases h;have e:=hx true rfl;subst e;cases c with|true=>exact .same g (v:=.bool true) (by simp[Go.asBool]) (.mk_bool _)|false=>have e:=PB h3 ((U6 ho).2 rfl) ry;subst e;exact .same g (v:=.bool y) (by simp[Go.asBool]) (by simpa using .mk_bool _)
    ·split at h;·cases h;have e:=hy false rfl;subst e;cases c with|false=>exact .same g (v:=.bool false) (by simp[Go.asBool]) (.mk_bool _)|true=>have e:=PB h2 ((U6 ho).1 rfl) rx;subst e;exact .same g (v:=.bool x) (by simp[Go.asBool]) (by simpa using .mk_bool _)
     ·cases h;obtain⟨h4,h5⟩:=U6 ho;cases c with|true=>have e:=PB h2 (h4 rfl) rx;subst e;exact .same g (v:=.bool x) (by simp[Go.asBool]) (by simpa using .mk_bool _)|false=>have e:=PB h3 (h5 rfl) ry;subst e;exact .same g (v:=.bool y) (by simp[Go.asBool]) (by simpa using .mk_bool _)
   ·cases h
  ·cases h
 ·cases h
end
section
variable {P : Program} {τ : Ad} {E : AH} {os objs : AF} {n : Nat}
theorem Qo(g:AC P E objs)(hf:E.loc n=none){cs:List V}{vals:Array Value}{t:TypeId}(r:AS P E cs vals.toList):∃E',E'.w=E.w.alloc (.cells vals t)∧AC P E' ((n,.box cs)::objs)∧BF E objs E' ((n,.box cs)::objs) []∧E'.loc n=some {b:=E.w.heap.size}:=by have hw:=ZAe E.w (.cells vals t) none;let L:AU:={b:=E.w.heap.size};have hx:=OW g L hf hw;have hr:=r.mono hx;have h:=AC.push g (L:=L) (o:=.box cs) hf hw ⟨vals,t,ZA7 _ _,by simpa using hr.1,λj hj=>by simpa[zH,yT]using hr.2 j hj⟩ λ_=>zB _;exact⟨_,rfl,h.1,h.2,Bi _ _ _ _⟩
theorem OX(g:AC P E objs)(hf:E.loc n=none){T:Ty}{xs:List T.den}{w:World}{cur:Array Value}{e:TypeId}{cap:Nat}(hw:E.w.grownBy w none)(hb:w.heap[E.w.heap.size]?=some (.cells cur e (0,0)))(Ag:0<T.size)(C6:xs.length≤cap)(Nr:cap≤maxLen)(Ae:cur.size=cap*T.size){cs:List Value}(hc:Aq E.w E.S T xs cs)(ht:cur.toList.take (xs.length*T.size)=cs):∃E',E'.w=w∧AC P E' ((n,.row T xs)::objs)∧BF E objs E' ((n,.row T xs)::objs) []∧E'.loc n=some ⟨E.w.heap.size,some ⟨E.w.heap.size,0,none⟩,xs.length,cap,T.size⟩:=by
 let L:AU:=⟨E.w.heap.size,some ⟨E.w.heap.size,0,none⟩,xs.length,cap,T.size⟩;have hx:=OW g L hf hw;have h:=AC.push g (L:=L) (o:=.row T xs) hf hw ⟨rfl,Ag,rfl,e,cs,hc.mono hx.S,by
  by_cases hz:cap=0;·subst hz;exact .inl ⟨rfl,zR (by omega)⟩
  ·exact .inr ⟨cur,rfl,hb,C6,ZCy hz,Nr,Ae,ht⟩⟩ λ_=>zB _;exact⟨_,rfl,h.1,h.2,Bi _ _ _ _⟩
theorem sV(g:AC P E objs)(hf:E.loc n=none){T:Ty}{m:Nat}{w:World}{cur:Array Value}{e:TypeId}{cap:Nat}(hw:E.w.grownBy w none)(hb:w.heap[E.w.heap.size]?=some (.cells cur e (0,0)))(C6:m≤cap)(Nr:cap≤maxLen)(Ae:cur.size=cap)(hz:∀i,i<m→cur[i]?=some (.slice none 0 0)):∃E',E'.w=w∧AC P E' ((n,.vrow T [] [] m)::objs)∧BF E objs E' ((n,.vrow T [] [] m)::objs) []∧E'.loc n=some ⟨E.w.heap.size,some ⟨E.w.heap.size,0,none⟩,m,cap,1⟩:=by
 let L:AU:=⟨E.w.heap.size,some ⟨E.w.heap.size,0,none⟩,m,cap,1⟩;have h:=AC.push g (L:=L) (o:=.vrow T [] [] m) hf hw ⟨rfl,ZAl _,by simp[L],e,[],rfl,by
  by_cases h0:cap=0;·subst h0;exact .inl ⟨rfl,Nat.eq_zero_of_le_zero C6⟩
  ·exact .inr ⟨cur,rfl,hb,C6,ZCy h0,Nr,Ae,by simp,λj hj=>by simp at hj,λi _ hi=>hz i hi⟩⟩ λ_=>zB _;exact⟨_,rfl,h.1,h.2,Bi _ _ _ _⟩
theorem MZ{w:World}{S:Nat→Prop}{T:Ty}{zs:List Value}(h:BE w S T T.dflt zs):∀n:Nat,Aq w S T (List.replicate n T.dflt) (List.replicate n zs).flatten|0=>rfl|n+1=>⟨zs,_,by simp[ZBY],h,MZ h n⟩
theorem jO(hτ:A6 P τ){t:TypeId}{out:Ah}(h:SK τ n t=some out)(g:AC P E objs)(hf:E.loc n=none):BO P (Instr.alloc t true (.tuple #[])) E objs out:=by
 unfold SK at h;split at h
 ·rename_i m e size bytes zero code BC;obtain⟨info,z,hi,hs,hb,hz,B3,Cy⟩:=(hτ t _ BC).info;obtain⟨ht,ie,ze,KZ,N5,hzz,Ae,oG,hn1,Te⟩:=(hτ t _ BC).kind;split at h
  ·rename_i k sz by_ zero' T he;cases h;have hei:=hτ e _ he;obtain⟨hTs,Ag,G7⟩:=hei.code T rfl;obtain⟨info2,z2,hi2,Eb,hb2,FU,qC,yK⟩:=hei.info;rw[KZ]at hi2;cases hi2;rw[N5]at FU;cases FU;have Ag:0<T.size:=by rw[hTs];exact Ag
   have hcl:Aq E.w E.S T (List.replicate m T.dflt) z.cells.toList:=by rw[B3,show zero=_ from hzz,qC];exact MZ (G7 _ _) m
   have hlen:=hcl.length;rw[ZAD]at hlen;obtain⟨E',hw,h1,h2,h3⟩:=OX (cap:=m) g hf (ZAe E.w (.cells z.cells t) none) (ZA7 _ _) Ag (by simp) (by unfold maxLen;omega) (by simpa using hlen) hcl (ZA3 (by rw[ZAD,hlen];exact zB _));refine⟨E',_,by rw[hw];simp[Instr.alloc,Jy hi hz,newVar,newRow];rfl,h1,h2,?_⟩;simpa using Z.rref (i:=0) (off:=0) h3
  ·cases h;obtain⟨E',hw,h1,h2,h3⟩:=Qo g hf (t:=t) (cs:=Jx zero) (vals:=z.cells) (by rw[B3];exact RL _);exact⟨E',_,by rw[hw];simp[Instr.alloc,Jy hi hz,newVar,newRow],h1,h2,.ref h3⟩
  ·cases h
 ·rename_i zero _ hn BC;cases h;obtain⟨info,z,hi,hs,hb,hz,B3,Cy⟩:=(hτ t _ BC).info;obtain⟨E',hw,h1,h2,h3⟩:=Qo g hf (t:=t) (cs:=Jx zero) (vals:=z.cells) (by rw[B3];exact RL _);exact⟨E',_,by rw[hw];simp[Instr.alloc,Jy hi hz,newVar,newRow],h1,h2,.ref h3⟩
 ·cases h
theorem jS{t:TypeId}{x:V}{out:Ah}(h:SM n x=some out)(g:AC P E objs)(hf:E.loc n=none){c:Value}(r:Z P E x c):BO P (Instr.box t c) E objs out:=by
 unfold SM at h;split at h;·rename_i cs h1;cases h;obtain⟨E',hw,h2,h3,h4⟩:=Qo g hf (t:=t) (Qv h1 r).1;exact⟨E',_,by rw[hw];simp[Instr.box,newVar,newRow],h2,h3,.ref h4⟩
 ·cases h
theorem Xv(off:Nat):∀(vs:List Value)(k:Nat)(cells:Array Value),off+k+vs.length≤cells.size→(vs.zipIdx k).foldl (λcs(p:Value×Nat)=>cs.setIfInBounds (off+p.2) p.1) cells=(cells.toList.take (off+k)++vs++cells.toList.drop (off+k+vs.length)).toArray
 |[],k,cells,h=>by simp|v::vs,k,cells,h=>by
  simp only[List.zipIdx_cons,ZAg,yX]at h⊢;rw[Xv off vs (k+1) _ (by simp;omega)];apply ZC5;simp only[Array.toList_setIfInBounds];apply ZAZ;intro j;have e1:off+(k+1)=off+k+1:=by omega
  rw[e1];have s1:=Gx (A:=cells.toList.set (off+k) v) (vs:=vs) (o:=off+k+1) (by simp;omega) j;have s2:=Gx (A:=cells.toList) (vs:=v::vs) (o:=off+k) (by simp;omega) j;have e2:off+k+(vs.length+1)=off+k+1+vs.length:=by omega
  simp only[yX,e2]at s2⊢;rw[s1,s2];by_cases c1:j<off+k;·rw[yS (by omega),yS c1,ZCl (by omega)]
  ·by_cases c2:j=off+k;·subst c2;rw[yS (by omega),yP c1,yS (by omega)];rw[List.getElem?_set_self (by simp;omega)];simp
   ·rw[yP (by omega),yP c1];by_cases c3:j<off+k+1+vs.length
    ·rw[yS c3,yS (by omega)];have :j-(off+k)=j-(off+k+1)+1:=by omega
     rw[this];simp
    ·rw[yP c3,yP (by omega),ZCl (by omega)]
theorem Su{place:Nat→Option (Nat×Nat)}{cells:Array Value}{i off size:Nat}{v:Value}{rest:List (Nat×Value)}(hp:place i=some (off,size))(hs:v.cells.toList.length=size)(hf:off+size≤cells.size):Instr.fill place cells ((i,v)::rest)=Instr.fill place (cells.toList.take off++v.cells.toList++cells.toList.drop (off+v.cells.toList.length)).toArray rest:=by
 have Ae:v.cells.size=size:=by simpa using hs
 have h1:¬(v.cells.size≠size∨off+v.cells.size>cells.size):=by omega
 have Tg:=Xv off v.cells.toList 0 cells (by simp;omega);simp only[Instr.fill,hp];rw[yP (by simpa using h1)];congr 1;rw[←ZDh,Array.toList_zipIdx];simpa using Tg
theorem Ss{offs:List (Nat×Nat)}:∀{parts:List (Nat×V)}{vals:List (Nat×Value)}{cs cs':List V}{cells:Array Value},Lb offs cs parts=some cs'→AS P E cs cells.toList→parts.map (·.1)=vals.map (·.1)→(∀(j:Nat)(p:Nat×V)(q:Nat×Value),parts[j]?=some p→vals[j]?=some q→Z P E p.2 q.2)→∃cells',Instr.fill (offs[·]?) cells vals=some cells'∧AS P E cs' cells'.toList
 |[],vals,cs,cs',cells,h,r,hm,_=>by
  have :vals=[]:=by simpa using hm.symm
  subst this;simp only[Lb]at h;cases h;exact⟨cells,rfl,r⟩|(i,v)::parts,[],cs,cs',cells,h,r,hm,_=>by simp at hm|(i,v)::parts,(i',c)::vals,cs,cs',cells,h,r,hm,hr=>by
  simp only[ZAK,ZBg]at hm;obtain⟨rfl,hm⟩:=hm;simp only[Lb]at h;split at h
  ·rename_i o m ho;split at h
   ·rename_i new hn;split at h
    ·rename_i hlen;have hlen:=yW hlen;split at h;·rename_i cs1 h1;have hc:=(Qv hn (hr 0 _ _ rfl rfl)).1;obtain⟨h3,h4⟩:=r.put h1 hc;have hl:c.cells.toList.length=m:=hc.1.trans hlen;obtain⟨cells',h5,h6⟩:=Ss (vals:=vals) (cells:=(cells.toList.take o++c.cells.toList++cells.toList.drop (o+c.cells.toList.length)).toArray) h (by simpa using h3) hm λj p q hp hq=>hr (j+1) p q (by simpa using hp) (by simpa using hq);exact⟨cells',by rw[Su (place:=(offs[·]?)) ho hl (by simp at h4 hl⊢;omega)];exact h5,h6⟩
     ·cases h
    ·cases h
   ·cases h
  ·cases h
theorem Z3{α β:Type}{f:α→Sem β}{g:α→β}:∀{l:List α},(∀x∈l,∀w,(f x).run P w=.ok (g x) w)→∀w,(l.mapM f).run P w=.ok (l.map g) w|[],_,w=>by simp|x::l,h,w=>by have h1:=h x (by simp) w;have h2:=Z3 (l:=l) (λy hy=>h y (by simp[hy])) w;simp[h1,h2]
theorem Xf{p q:Nat→Option (Nat×Nat)}:∀{parts:List (Nat×Value)}{cells cells':Array Value},(∀i r,p i=some r→q i=some r)→Instr.fill p cells parts=some cells'→Instr.fill q cells parts=some cells'|[],_,_,_,h=>h|(i,v)::rest,cells,cells',Y6,h=>by unfold Instr.fill at h⊢;cases hp:p i with|none=>rw[hp]at h;cases h|some r=>
 rw[hp]at h;rw[Y6 i r hp];simp only at h⊢;split at h;·cases h
 ·rename_i hc;rw[yP hc];exact Xf Y6 h
theorem jU(hτ:A6 P τ){t:TypeId}{parts:List (Nat×V)}{vals:Array (Nat×Value)}{out:Ah}(h:SN τ t parts=some out)(g:AC P E objs)(hm:parts.map (·.1)=vals.toList.map (·.1))(hr:∀(j:Nat)(p:Nat×V)(q:Nat×Value),parts[j]?=some p→vals.toList[j]?=some q→Z P E p.2 q.2):BO P (Instr.build t vals) E objs out:=by
 unfold SN at h;split at h
 ·rename_i offs sz by_ zero co BC;split at h
  ·rename_i cs h1;cases h;have hok:=hτ t _ BC;obtain⟨fs,h2,h3,h4⟩:=hok.kind;obtain⟨info,z,hi,hs,hb,hz,B3,Cy⟩:=hok.info;obtain⟨cells',h5,h6⟩:=Ss (vals:=vals.toList) (cells:=z.cells) h1 (by rw[B3];exact RL _) hm hr;have oR:∀w,(fs.mapM λf=>Prod.mk f.offset<$>sizeOf f.type:Sem (Array (Nat×Nat))).run P w=.ok offs.toArray w:=by
    intro w;rw[ZC6];simp only[Sem.run_map];rw[Z3 (g:=λf=>(f.offset,P.cellsOf f.type))];·simp[h3]
    ·intro f hf w;have MH:=h4 (f.offset,P.cellsOf f.type) (by rw[←h3];exact List.mem_map.2 ⟨f,hf,rfl⟩);cases hq:P.info? f.type with|none=>simp[Program.cellsOf,hq]at MH|some i=>simp[Gw hq,Program.cellsOf,hq]
   refine .same g (v:=.agg cells') ?_ (.agg (by simpa using h6.1) λj hj=>by simpa[zH,yT]using h6.2 j hj);simp[Instr.build,Jy hi hz,zI h2,oR,h5]
  ·cases h
 ·rename_i m e size bytes zero code BC;obtain⟨info,z,hi,hs,hb,hz,B3,Cy⟩:=(hτ t _ BC).info;have ht:=(hτ t _ BC).kind.1;split at h
  ·rename_i ei he;split at h;·rename_i cs h1;cases h;obtain⟨info2,z2,hi2,Eb,_⟩:=(hτ e _ he).info;obtain⟨cells',h5,h6⟩:=Ss (vals:=vals.toList) (cells:=z.cells) h1 (by rw[B3];exact RL _) hm hr;refine .same g (v:=.agg cells') ?_ (.agg (by simpa using h6.1) λj hj=>by simpa[zH,yT]using h6.2 j hj);have h7:=Xf (q:=λi=>some (i*ei.size,ei.size)) λi r hr=>by simp only[ZAI,ZAA]at hr;obtain⟨k,hk,rfl⟩:=hr;have :=ZCG (ZB5▸(List.getElem?_eq_some_iff.1 hk).1);rw[hk]at this;cases this;rfl h5;simp[Instr.build,Jy hi hz,zI ht,Gw hi2,Eb,h7]
   ·cases h
  ·cases h
 ·cases h
theorem qJ(hτ:A6 P τ){t e:TypeId}{m size bytes:Nat}{zero:List Value}{code:Option Ty}{ei:TI}{k:IntKind}{cs:List V}{i:Nat}{v:V}(BC:τ t=some ⟨.arr m e,size,bytes,zero,code⟩)(he:τ e=some ei)(h1:i<m)(h2:ei.size=1)(h3:ei.isAgg=false)(h4:ei.k.known=true)(hv:cs[i]?=some v)(w:World){c:Value}(rx:Z P E (.agg cs) c):∃u,Z P E v u∧(Instr.index t c (.int k i)).run P w=.ok u w:=by have ht:=(hτ t _ BC).kind.1;have hei:=hτ e _ he;obtain⟨info,z,hi,hs,_⟩:=hei.info;cases rx with|agg hl hcs=>
 rename_i a;have AY:i<cs.length:=(List.getElem?_eq_some_iff.1 hv).1;have hr:=hcs i AY;have e1:cs.getD i .any=v:=by rw[yT,hv];rfl
 rw[e1]at hr;refine⟨a.getD i undef,hr,?_⟩;obtain⟨d,hd1,Ev⟩:=hei.desc h4;have YV:=UN (P:=P) hd1 w;rw[Ev,h3]at YV;have Tv:i<a.size:=by rw[hl];exact AY
 have Ae:info.size=1:=by rw[hs];exact h2
 have hi1:(i:Int)<(m:Int):=by omega
 have hrun:(Go.part e a i).run P w=.ok (a.getD i undef) w:=by simp[Go.part,YV,Tv,zH]
 simp[Instr.index,asIntOf,zI ht,hi1,h1,Gw hi,Ae,hrun]
theorem XQ(hτ:A6 P τ){t:TypeId}{x ix:V}{out:Ah}(h:NB τ t x ix=some out)(g:AC P E objs){c d:Value}(rx:Z P E x c)(ri:Z P E ix d):BO P (Instr.index t c d) E objs out:=by
 unfold NB at h;split at h
 ·rename_i m e size bytes zero code BC;split at h
  ·rename_i cs;split at h
   ·rename_i k i;have hd:=ri.int_inv;subst hd;split at h
    ·rename_i ei he;split at h
     ·rename_i hc;simp only[zN,Nat.blt_eq,Bool.not_eq_eq_eq_not,zU]at hc;obtain⟨⟨⟨h1,h2⟩,h3⟩,h4⟩:=hc;split at h;·rename_i v hv;cases h;obtain⟨u,hr,hrun⟩:=qJ hτ (k:=k) BC he h1 (yW h2) h3 h4 hv E.w rx;exact .same g hrun hr
      ·cases h
     ·cases h
    ·cases h
   ·cases h
  ·cases h
 ·cases h
end
section
variable {P : Program} {τ : Ad} {E : AH} {os objs : AF} {n : Nat}
theorem XU{T:Ty}:∀{parts:List (Nat×V)}{vals:List (Nat×Value)}{n:Nat}{xs:List T.den},NE T n parts=some xs→parts.map (·.1)=vals.map (·.1)→(∀(j:Nat)(p:Nat×V)(q:Nat×Value),parts[j]?=some p→vals[j]?=some q→Z P E p.2 q.2)→xs.length=parts.length∧∃cs,Aq E.w E.S T xs cs∧∀(cells:Array Value),n*T.size+parts.length*T.size≤cells.size→Instr.fill (λi=>some (i*T.size,T.size)) cells vals=some (cells.toList.take (n*T.size)++cs++cells.toList.drop (n*T.size+cs.length)).toArray
 |[],vals,n,xs,h,hm,_=>by
  have :vals=[]:=by simpa using hm.symm
  subst this;simp only[NE,ZA5]at h;subst h;exact⟨rfl,[],rfl,λcells _=>by simp[Instr.fill]⟩|(i,v)::parts,[],n,xs,h,hm,_=>by simp at hm|(i,v)::parts,(i',c)::vals,n,xs,h,hm,hr=>by
  simp only[ZAK,ZBg]at hm;obtain⟨rfl,hm⟩:=hm;simp only[NE]at h;split at h
  ·rename_i hi;have hi:=yW hi;subst hi;split at h
   ·rename_i new hn;split at h
    ·rename_i x hp;split at h
     ·rename_i l hl;cases h;have hc:=GY hp (Qv hn (hr 0 _ _ rfl rfl)).1;obtain⟨h1,cs,h2,h3⟩:=XU (vals:=vals) hl hm λj p q hp hq=>hr (j+1) p q (by simpa using hp) (by simpa using hq);have hcl:=hc.length;have TW:=h2.length;refine⟨by simp[h1],c.cells.toList++cs,⟨_,_,rfl,hc,h2⟩,λcells CP=>?_⟩;have hmul:(i+1)*T.size=i*T.size+T.size:=ZAd _ _;have oF:(parts.length+1)*T.size=parts.length*T.size+T.size:=ZAd _ _;simp only[yX]at CP;rw[Su (off:=i*T.size) (size:=T.size) rfl hcl (by omega),h3 _ (by simp only[ZAy,yU,zG,ZAF,zT]at hcl⊢;omega)];congr 2;have xN:cs.length=parts.length*T.size:=by rw[TW,h1]
      apply ZAZ;intro k;have hA:(cells.toList.take (i*T.size)++c.cells.toList++cells.toList.drop (i*T.size+c.cells.toList.length)).length=cells.size:=by simp only[yU,zG,ZAF,zT]at hcl⊢;omega
      have s1:=Gx (A:=cells.toList.take (i*T.size)++c.cells.toList++cells.toList.drop (i*T.size+c.cells.toList.length)) (vs:=cs) (o:=(i+1)*T.size) (by rw[hA];omega) k;have s2:=Gx (A:=cells.toList) (vs:=c.cells.toList) (o:=i*T.size) (by simp only[zT]at hcl⊢;omega) k;have s3:=Gx (A:=cells.toList) (vs:=c.cells.toList++cs) (o:=i*T.size) (by simp only[yU,zT]at hcl⊢;omega) k;rw[s1,s2,s3];simp only[yU]at hcl⊢;by_cases c1:k<i*T.size;·rw[yS (by omega),yS c1,yS c1]
      ·by_cases c2:k<i*T.size+T.size;·rw[yS (by omega),yP c1,yS (by omega),yP c1,yS (by omega),ZAV (by omega)]
       ·rw[yP (by omega)];by_cases c3:k<(i+1)*T.size+cs.length;·rw[yS c3,yP c1,yS (by omega),ZAS (by omega)];congr 1;omega
        ·rw[yP c3,yP c1,yP (by omega),yP c1,yP (by omega)]
     ·cases h
    ·cases h
   ·cases h
  ·cases h
theorem Wb:∀{parts:List (Nat×V)}{vals:List (Nat×Value)}{n:Nat}{cs:List V},cellsOf n parts=some cs→parts.map (·.1)=vals.map (·.1)→(∀(j:Nat)(p:Nat×V)(q:Nat×Value),parts[j]?=some p→vals[j]?=some q→Z P E p.2 q.2)→cs.length=parts.length∧∃us,AS P E cs us∧∀(cells:Array Value),n+parts.length≤cells.size→Instr.fill (λi=>some (i*1,1)) cells vals=some (cells.toList.take n++us++cells.toList.drop (n+us.length)).toArray
 |[],vals,n,cs,h,hm,_=>by
  have :vals=[]:=by simpa using hm.symm
  subst this;simp only[cellsOf,ZA5]at h;subst h;exact⟨rfl,[],.nil,λcells _=>by simp[Instr.fill]⟩|(i,v)::parts,[],n,cs,h,hm,_=>by simp at hm|(i,v)::parts,(i',c)::vals,n,cs,h,hm,hr=>by
  simp only[ZAK,ZBg]at hm;obtain⟨rfl,hm⟩:=hm;simp only[cellsOf]at h;split at h
  ·rename_i hi;have hi:=yW hi;subst hi;split at h
   ·rename_i hv;split at h
    ·rename_i l hl;cases h;have rc:=hr 0 _ _ rfl rfl;have Iu:=Qz hv rc;have KR:=Rw Iu;obtain⟨h1,us,h2,h3⟩:=Wb (vals:=vals) hl hm λj p q hp hq=>hr (j+1) p q (by simpa using hp) (by simpa using hq);have yI:us.length=parts.length:=h2.1.trans h1;refine⟨by simp[h1],c::us,.cons rc h2,λcells CP=>?_⟩;simp only[yX]at CP;rw[Su (off:=i*1) (size:=1) rfl (by rw[KR];rfl) (by omega),h3 _ (by rw[KR];simp only[ZAy,yU,zG,ZAF,zT,yX,zF];omega)];congr 2;rw[KR,ZA8];apply ZAZ;intro k;have s1:=Gx (A:=cells.toList.take i++[c]++cells.toList.drop (i+[c].length)) (vs:=us) (o:=i+1) (by simp only[yU,zG,ZAF,zT,yX,zF];omega) k;have s2:=Gx (A:=cells.toList) (vs:=[c]) (o:=i) (by simp;omega) k;have s3:=Gx (A:=cells.toList) (vs:=c::us) (o:=i) (by simp;omega) k;simp only[yX,zF,ZAJ]at s1 s2 s3⊢;rw[s1,s2,s3];by_cases c1:k<i;·rw[yS (by omega),yS c1,yS c1]
     ·by_cases c2:k<i+1
      ·rw[yS c2,yP c1,yS c2,yP c1,yS (by omega)];have :k-i=0:=by omega
       rw[this];rfl
      ·rw[yP c2];by_cases c3:k<i+1+us.length
       ·rw[yS c3,yP c1,yS (by omega)];have :k-i=k-(i+1)+1:=by omega
        rw[this];rfl
       ·rw[yP c3,yP c1,yP c2,yP c1,yP (by omega)]
    ·cases h
   ·cases h
  ·cases h
theorem Zy{t e:TypeId}{info:TypeInfo}{z:Value}{len sz:Nat}{vals:Array (Nat×Value)}{cs:List Value}(ht:P.underlying t=some (.slice e))(hi:P.info? e=some info)(hz:info.zero=some z)(hs:info.size=sz)(UB:len*sz≤16777216)(hf:∀cells:Array Value,cells.size=len*sz→Instr.fill (λi=>some (i*sz,sz)) cells vals.toList=some cs.toArray)(w:World):(Instr.buildSlice t len vals).run P w=.ok (.slice (some ⟨w.heap.size,0,none⟩) len len) (w.alloc (.cells cs.toArray e)):=by
 subst hs;have HN:¬len*info.size>2^24:=by omega
 by_cases Ba:len*info.size=0
 ·have h5:=hf #[] (by simp[Ba]);have e2:(Array.range (len*info.size)).map (λx=>(#[]:Array Value)[x%(#[]:Array Value).size]!)=#[]:=by rw[Ba];apply ZBv;simp
  simp only[Instr.buildSlice,ZAL,zI ht,zS,Gw hi,yP HN,Sem.run_ite,yS Ba,ZAo,e2,h5];simp[newRow]
 ·have h5:=hf ((Array.range (len*info.size)).map (z.cells[·%z.cells.size]!)) (by simp);simp[Instr.buildSlice,zI ht,Gw hi,HN,Ba,Jy hi hz,h5,newRow]
theorem jT(hτ:A6 P τ){t:TypeId}{len:Nat}{parts:List (Nat×V)}{vals:Array (Nat×Value)}{out:Ah}(h:SO τ n t len parts=some out)(g:AC P E objs)(hf:E.loc n=none)(hm:parts.map (·.1)=vals.toList.map (·.1))(hr:∀(j:Nat)(p:Nat×V)(q:Nat×Value),parts[j]?=some p→vals.toList[j]?=some q→Z P E p.2 q.2):BO P (Instr.buildSlice t len vals) E objs out:=by
 unfold SO at h;split at h
 ·rename_i e sz by_ zero co BC;have ht:P.underlying t=some (.slice e):=(hτ t _ BC).kind;split at h
  ·rename_i k size bytes zero' T hei;have hei:=hτ e _ hei;split at h
   ·rename_i hc;simp only[zN]at hc;have hlen:=yW hc.1;have UB:=zW hc.2;split at h
    ·rename_i xs h1;cases h;obtain⟨hTs,Ag,_⟩:=hei.code T rfl;have hTs:T.size=size:=hTs;have Ag:0<T.size:=by rw[hTs];exact Ag
     obtain⟨info,z,hi,hs,hb,hz,B3,Cy⟩:=hei.info;obtain⟨h2,cs,h3,h4⟩:=XU (vals:=vals.toList) h1 hm hr;have hcl:=h3.length;have hrun:=Zy (P:=P) (vals:=vals) (cs:=cs) (len:=len) (sz:=T.size) ht hi hz (by rw[hs];exact hTs.symm) (by rw[hTs];exact UB) λcells hcs=>by rw[h4 cells (by rw[hcs,hlen];omega),ZCP,ZAJ,ZBK (by rw[zT,hcs,hcl,h2,hlen];exact zB _)];simp E.w;have Iu:xs.length*1≤xs.length*T.size:=Nat.mul_le_mul_left _ Ag;have hmul:len*size=xs.length*T.size:=by rw[h2,hlen,hTs]
     obtain⟨E',hw,g1,g2,g3⟩:=OX g hf (xs:=xs) (w:=E.w.alloc (.cells cs.toArray e)) (cur:=cs.toArray) (e:=e) (cap:=xs.length) (ZAe _ _ _) (ZA7 _ _) Ag (zB _) (by unfold maxLen;omega) (by simp[hcl]) h3 (by rw[←hcl];simp);refine⟨E',_,by rw[hw];exact hrun,g1,g2,?_⟩;have e1:xs.length=len:=by rw[h2,hlen]
     rw[e1]at g3;exact .osl g3
    ·cases h
   ·cases h
  ·rename_i k size bytes zero' hei;have hei:=hτ e _ hei;split at h
   ·rename_i hc;simp only[zN]at hc;obtain⟨⟨⟨IE,IF⟩,mR⟩,xJ⟩:=hc;have hlen:=yW IE;have UB:=zW IF;have Ae:=yW mR;split at h;·rename_i cs h1;cases h;obtain⟨info,z,hi,hs,hb,hz,B3,Cy⟩:=hei.info;obtain⟨h2,us,h3,h4⟩:=Wb (vals:=vals.toList) h1 hm hr;have hrun:=Zy (P:=P) (vals:=vals) (cs:=us) (len:=len) (sz:=1) ht hi hz (by rw[hs];exact Ae) (by omega) λcells hcs=>by rw[h4 cells (by omega),ZAJ,ZBK (by rw[zT,hcs,h3.1,h2,hlen];omega)];simp E.w;obtain⟨E',hw,g1,g2,g3⟩:=Qo g hf (t:=e) (cs:=cs) (vals:=us.toArray) (by simpa using h3);exact⟨E',_,by rw[hw];exact hrun,g1,g2,.bsl g3⟩
    ·cases h
   ·cases h
  ·cases h
 ·cases h
theorem Uc{z:Array Value}{n c:Nat}(hz:0<z.size)(h:n≤c):(madeCells z (c*z.size)).toList.take (n*z.size)=(List.replicate n z.toList).flatten:=by
 have hl:n*z.size≤c*z.size:=ZAQ _ h;have key:∀n k,k<n*z.size→(List.replicate n z.toList).flatten[k]?=some z[k%z.size]!:=by intro n;induction n with|zero=>intro k hk;simp at hk|succ n ih=>
  intro k hk;rw[ZBY,ZAm];rcases ZAn k z.size with h1|h1;·rw[ZAV (by simpa using h1),Nat.mod_eq_of_lt h1];simp[h1]
  ·rw[ZAS (by simpa using h1),zT,ih _ (by rw[ZAd]at hk;omega),Nat.mod_eq_sub_mod h1]
 have Ir:∀n,(List.replicate n z.toList).flatten.length=n*z.size:=by intro n;simp
 apply ZAZ;intro k;rw[zP];split;·rename_i hk;rw[key n k hk];simp only[madeCells,ZAR,ZDi];rw[ZDX,yS (by omega)];rfl
 ·rw[ZAW (by rw[Ir];omega)]
theorem kF(hτ:A6 P τ){t:TypeId}{l c:V}{out:Ah}(h:Sd τ n t l c=some out)(ho:A0 out.ob)(g:AC P E objs)(hf:E.loc n=none){l' c':Value}(rl:Z P E l l')(rc:Z P E c c'):BO P (Instr.makeSlice t l' c') E objs out:=by
 unfold Sd at h;split at h
 ·rename_i e sz by_ zero co BC;have ht:P.underlying t=some (.slice e):=(hτ t _ BC).kind;split at h
  ·rename_i l0;obtain⟨l,nV⟩:∃l:Int,l=l0:=⟨l0,rfl⟩;subst nV;have hl:=rl.int_inv;subst hl;split at h
   ·rename_i c0;obtain⟨c,CH⟩:∃c:Int,c=c0:=⟨c0,rfl⟩;subst CH;have hc:=rc.int_inv;subst hc;split at h
    ·rename_i k size bytes zero' T hei;have hei:=hτ e _ hei;cases h;obtain⟨h0,MC,Pz,Nr⟩:0≤l∧l≤c∧c*bytes≤140737488355328∧c≤9223372036854775807:=ho;obtain⟨hTs,Ag,Ba⟩:=hei.code T rfl;have hTs:T.size=size:=hTs;have Ag:0<T.size:=by rw[hTs];exact Ag
     obtain⟨info,z,hi,hs,hb,hz,B3,Cy⟩:=hei.info;have hs:info.size=size:=hs;have hb:info.bytes=bytes:=hb;have B3:z.cells.toList=zero':=B3;have Cy:z.cells.size=size:=Cy;have hrun:=run_make (P:=P) E.w t e info z ht hi hz .i64 .i64 l c h0 MC (by rw[hb,ZCK];omega) Nr;have hzz:z.cells.size=T.size:=by rw[Cy,hTs]
     have Tt:l.toNat≤c.toNat:=by omega
     have plain:BO P (Instr.makeSlice t (.int .i64 l) (.int .i64 c)) E objs ⟨some (0≤l∧l≤c∧c*bytes≤140737488355328∧c≤9223372036854775807),.osl n,some (n,.row T (List.replicate l.toNat T.dflt),false)⟩:=by obtain⟨E',hw,g1,g2,g3⟩:=OX g hf (xs:=List.replicate l.toNat T.dflt) (w:=E.w.alloc (.cells (madeCells z.cells (c.toNat*info.size)) e)) (cur:=madeCells z.cells (c.toNat*info.size)) (e:=e) (cap:=c.toNat) (ZAe _ _ _) (ZA7 _ _) Ag (by simpa using Tt) (by unfold maxLen;omega) (by rw[size_madeCells,hs,hTs]) (MZ (Ba E.w E.S) l.toNat) (by rw[ZAD,hs,←hTs,←hzz,Uc (by omega) Tt,←B3]);refine⟨E',_,by rw[hw];exact hrun,g1,g2,?_⟩;rw[ZAD]at g3;exact .osl g3
     cases T with|sl u=>
      unfold eQ;split
      ·rename_i u' hu;cases hu;split
       ·split
        ·have C8:info.size=1:=hs.trans hTs.symm;have CH:z.cells.toList=[.slice none 0 0]:=B3;have qA:z.cells=#[.slice none 0 0]:=by rw[←ZDY (xs:=z.cells),CH]
         obtain⟨E',hw,g1,g2,g3⟩:=sV (T:=u) (m:=l.toNat) g hf (w:=E.w.alloc (.cells (madeCells z.cells (c.toNat*info.size)) e)) (cur:=madeCells z.cells (c.toNat*info.size)) (e:=e) (cap:=c.toNat) (ZAe _ _ _) (ZA7 _ _) Tt (by unfold maxLen;omega) (by rw[size_madeCells,C8,ZA8]) λi hi=>by rw[qA,C8,ZA8];simp only[madeCells,ZDi];rw[ZDX,yS (by omega)];simp[Nat.mod_one]
         exact⟨E',_,by rw[hw];exact hrun,g1,g2,.osl g3⟩
        ·exact plain
       ·exact plain
      ·rename_i hn;exact absurd rfl (hn u)|_=>exact plain
    ·cases h
   ·cases h
  ·cases h
 ·cases h
def DJ(w:World)(size m:Nat)(news:List Value)(c:Value):Prop:=news.length=m*size∧((∃a cap,c=.slice a m cap∧(0<m→∃ad,a=some ad∧∀j v,news[j]?=some v→w.cell? (ad.add j)=some v))∨∃s:ByteArray,c=.string s∧m=s.size∧news=Lib.strCells s)
theorem DJ.lenOf{w:World}{size m:Nat}{news:List Value}{c:Value}(h:DJ w size m news c)(w':World):(Builtin.lenOf c).run P w'=.ok m w':=by obtain⟨h1,⟨a,cap,rfl,h2⟩|⟨s,rfl,rfl,h2⟩⟩:=h<;>simp[Builtin.lenOf]
theorem DJ.run{w:World}{size m:Nat}{news:List Value}{c:Value}(h:DJ w size m news c){w':World}(hw:w'.heap=w.heap):(Builtin.firstCells size m c).run P w'=.ok news.toArray w':=by
 obtain⟨h1,⟨a,cap,rfl,h2⟩|⟨s,rfl,rfl,rfl⟩⟩:=h
 ·by_cases hm:0<m;·obtain⟨ad,rfl,h3⟩:=h2 hm;exact run_firstCells_some (P:=P) w' size m ad m cap news h1 λj v hj=>by rw[show w'.cell? (ad.add j)=w.cell? (ad.add j)from by simp only[World.cell?,hw]];exact h3 j v hj
  ·have h0:m=0:=by omega
   subst h0;have hn:news=[]:=zR (by omega);subst hn;cases a with|none=>simp[Builtin.firstCells]|some ad=>simp[Builtin.firstCells,loadCells,loadCellsFrom]
 ·exact Lib.run_firstCells_string w' size s
theorem cI{T:Ty}{l:List T.den}{c:Value}(h:BE E.w E.S (.sl T) l [c]):∃cs,Aq E.w E.S T l cs∧DJ E.w T.size l.length cs c:=by
 obtain⟨a,cap,hc,C6,hl⟩:=h;have hc':c=.slice a l.length cap:=by simpa using hc
 subst hc';by_cases Ab:l=[];·subst Ab;exact⟨[],rfl,by simp,.inl ⟨a,cap,rfl,λh=>by simp at h⟩⟩
 ·obtain⟨b,off,rfl,hS,hx⟩:=hl Ab;have :∀(l':List T.den)(k:Nat),(∀i x,l'[i]?=some x→l[k+i]?=some x)→∃cs,Aq E.w E.S T l' cs∧∀j u,cs[j]?=some u→E.w.cell? ⟨b,off+k*T.size+j,none⟩=some u:=by intro l';induction l' with|nil=>intro k _;exact⟨[],rfl,λj u h=>by simp at h⟩|cons x l' ih=>
   intro k hk;obtain⟨cs',h1,h2⟩:=hx k x (hk 0 x rfl);obtain⟨cs,h3,h4⟩:=ih (k+1) λi y hy=>by rw[show k+1+i=k+(i+1)from by omega];exact hk (i+1) y (by simpa using hy)
   have II:=h1.length;refine⟨cs'++cs,⟨cs',cs,rfl,h1,h3⟩,λj u hj=>?_⟩;rcases ZAn j cs'.length with AY|Dc;·rw[ZAV AY]at hj;exact h2 j u hj
   ·rw[ZAS Dc]at hj;have :=h4 _ u hj;rw[ZAd]at this;rw[←this];congr 2;omega
  obtain⟨cs,h1,h2⟩:=this l 0 λi x h=>by simpa using h
  refine⟨cs,h1,h1.length,.inl ⟨_,cap,rfl,λ_=>⟨_,rfl,λj v hj=>?_⟩⟩⟩;rw[ZAi];simpa using h2 j v hj
theorem Aq.take{w:World}{S:Nat→Prop}{t:Ty}:∀{l:List t.den}{cs:List Value}(n:Nat),Aq w S t l cs→Aq w S t (l.take n) (cs.take (n*t.size))|l,cs,0,_=>by simp[Aq]|[],cs,n+1,h=>by rw[show cs=[]from h];simp[Aq]|x::l,cs,n+1,⟨c1,c2,h,h1,h2⟩=>by have hl:=h1.length;refine⟨c1,c2.take (n*t.size),?_,h1,h2.take n⟩;rw[h,ZAd,←hl,Nat.add_comm,List.take_length_add_append,hl]
theorem Aq.drop{w:World}{S:Nat→Prop}{t:Ty}:∀{l:List t.den}{cs:List Value}(n:Nat),Aq w S t l cs→Aq w S t (l.drop n) (cs.drop (n*t.size))|l,cs,0,h=>by simpa using h|[],cs,n+1,h=>by rw[show cs=[]from h];simp[Aq]|x::l,cs,n+1,⟨c1,c2,h,h1,h2⟩=>by have hl:=h1.length;rw[h,ZAd,←hl,show n*c1.length+c1.length=c1.length+n*c1.length from Nat.add_comm _ _,List.drop_length_add_append,hl];exact h2.drop n
theorem VU{L:AU}{T:Ty}{xs:List T.den}(h:Aj P E L (.row T xs)){lo m:Nat}(F0:lo+m≤xs.length){c:Value}(hp:L.Part lo m c):∃cs,Aq E.w E.S T ((xs.drop lo).take m) cs∧DJ E.w T.size m cs c:=by
 obtain⟨C7,Ag,hlen,e,cs,h9,BX⟩:=id h;have hdl:((xs.drop lo).take m).length=m:=by simp;omega
 rcases BX with⟨hc,rfl⟩|⟨cur,Cv,Cl,Hv,IS,MJ,IT,IU⟩
 ·have hm:m=0:=by simp at F0;omega
  subst hm;obtain⟨a,rfl,_⟩:=hp;exact⟨[],by simp[Aq],by simp,.inl ⟨_,_,rfl,λh=>by omega⟩⟩
 ·refine⟨(cs.drop (lo*T.size)).take (m*T.size),(h9.drop lo).take m,by have :=((h9.drop lo).take m).length;rw[hdl]at this;exact this,.inl ?_⟩;by_cases hm:m=0;·subst hm;obtain⟨a,rfl,_⟩:=hp;exact⟨_,_,rfl,λh=>by omega⟩
  ·rw[Qk h F0 (by omega) hp];refine⟨_,_,rfl,λ_=>⟨_,rfl,λj v hj=>?_⟩⟩;rw[zP]at hj;split at hj
   ·rename_i xY;rw[ZAs]at hj;rw[ZAi,G3 Cl];rw[←IU,zP]at hj;split at hj;·simpa using hj
    ·cases hj
   ·cases hj
theorem Ky{L:AU}{T:Ty}{xs:List T.den}(h:Aj P E L (.row T xs)):L.Part 0 xs.length L.v:=by
 have hlen:=h.2.2.1;obtain⟨_,_,_,e,cs,h9,BX⟩:=h;refine⟨L.a,by rw[AU.v,hlen];rfl,λhc=>?_⟩;rcases BX with⟨h0,rfl⟩|⟨cur,Cv,Cl,Hv,IS,_⟩;·exact absurd h0 hc
 ·simp[Cv,ZAi]
theorem bX{L:AU}{T:Ty}{xs:List T.den}(h:Aj P E L (.row T xs)):∃cs,Aq E.w E.S T xs cs∧DJ E.w T.size xs.length cs L.v:=by have :=VU h (lo:=0) (m:=xs.length) (by omega) (Ky h);rw[ZCt,zA]at this;exact this
theorem cT{T:Ty}{x:V}{ys:List T.den}{p:Option Prop}(h:Q2 T os x=some (ys,p))(hs:CG os objs)(hp:A0 p)(g:AC P E objs){c:Value}(r:Z P E x c):(∃cs,Aq E.w E.S T ys cs∧DJ E.w T.size ys.length cs c)∧∃a m cap,c=.slice a m cap:=by
 unfold Q2 at h;split at h
 ·rename_i l;split at h
  ·rename_i t xs hcs;split at h;·rename_i ht;subst ht;cases h;obtain⟨L,hL,_,hat⟩:=g.get hs hcs;obtain⟨K,hK,rfl⟩:=E8 r;rw[hL]at hK;cases hK;exact⟨bX hat,_,_,_,rfl⟩
   ·cases h
  ·cases h
 ·rename_i l lo m;split at h
  ·rename_i t xs hcs;split at h
   ·rename_i ht;subst ht;cases h;have hp:lo+m≤xs.length:=hp;obtain⟨L,hL,_,hat⟩:=g.get hs hcs;obtain⟨K,hK,EN⟩:=Hw r;rw[hL]at hK;cases hK;have hdl:((xs.drop lo).take m).length=m:=by simp;omega
    simp only[hdl];refine⟨VU hat hp EN,?_⟩;obtain⟨a,rfl,_⟩:=EN;exact⟨_,_,_,rfl⟩
   ·cases h
  ·cases h
 ·split at h;·rename_i l hl;cases h;have hc:=WQ hl r;refine⟨cI hc,?_⟩;obtain⟨a,cap,h,_⟩:=hc;exact⟨a,_,cap,by simpa using h⟩
  ·cases h
theorem cS{T:Ty}{x:V}{ys:List T.den}{p:Option Prop}(h:Vc T os x=some (ys,p))(hs:CG os objs)(hp:A0 p)(g:AC P E objs){c:Value}(r:Z P E x c):∃cs,Aq E.w E.S T ys cs∧DJ E.w T.size ys.length cs c:=by
 unfold Vc at h;split at h
 ·rename_i s;split at h
  ·cases h;rw[r.str_inv];have hl:(Ib s).length=ByteArray.size s:=by simp only[Ib,zL,zT];rfl
   refine⟨Lib.strCells s,?_,by simp[Lib.strCells_length,Ty.size,hl],.inr ⟨s,rfl,hl,rfl⟩⟩;have :∀l:List UInt8,Aq E.w E.S (.int .u8) (l.map λb=>(b.toNat:Int)) (l.map λb=>Value.int .u8 b.toNat):=by intro l;induction l with|nil=>rfl|cons b l ih=>exact⟨[_],_,rfl,rfl,ih⟩
   exact this (ByteArray.data s).toList
  ·cases h
 ·exact(cT h hs hp g r).1
theorem WN{t tx ty e:TypeId}{i:TypeInfo}{z:Value}{dx:TypeDesc}(BH:P.underlying tx=some dx)(CS:(∃ex,dx=.slice ex)∨dx=.string)(ht:P.underlying t=some (.slice e))(hi:P.info? e=some i)(hz:i.zero=some z)(w:World){base:Option Addr}{n cap m:Nat}{olds news:List Value}{c:Value}(hold:(Builtin.firstCells i.size n (.slice base n cap)).run P w.drew=.ok olds.toArray w.drew)(hs:DJ w i.size m news c)(hg:cap<n+m)(NS:((n+m:Nat):Int)≤9223372036854775807)(CP:Builtin.nextslicecap (n+m) cap*i.bytes≤281474976710656):(Builtin.append_ #[t,tx] ty #[.slice base n cap,c]).run P w=.ok (.slice (some ⟨w.heap.size,0,none⟩) (n+m) (grownCap w (n+m) cap e)) (w.drew.alloc (.cells (olds.toArray++news.toArray++Builtin.zeroCells z.cells (grownCap w (n+m) cap e-(n+m))) e)):=by
 have hf:=hs.run (P:=P) (w':=w.drew) rfl;have hlen:=λw'=>hs.lenOf (P:=P) w';have hn:¬n+m≤cap:=by omega
 have Pt:¬9223372036854775807<(n:Int)+(m:Int):=by omega
 have Ps:¬281474976710656<Builtin.nextslicecap (n+m) cap*i.bytes:=by omega
 rcases CS with⟨ex,rfl⟩|rfl<;>simp[Builtin.append_,zI ht,zI BH,sizeOf,typeInfo,zeroValue,hi,hz,hlen,hn,Pt,Ps,Question.forced,hold,hf,newRow,grownCap];all_goals congr 2;apply ZC5;simp
theorem WM{t tx ty e e':TypeId}{i:TypeInfo}{dx:TypeDesc}(BH:P.underlying tx=some dx)(CS:(∃ex,dx=.slice ex)∨dx=.string)(ht:P.underlying t=some (.slice e))(hi:P.info? e=some i)(w:World){b:Nat}{cur:Array Value}{n cap m:Nat}{news:List Value}{c:Value}(hb:w.heap[b]?=some (.cells cur e' (0,0)))(hs:DJ w i.size m news c)(h1:∀u∈news,u.oneCell'=true)(hg:n+m≤cap)(CP:n*i.size+news.length≤cur.size):(Builtin.append_ #[t,tx] ty #[.slice (some ⟨b,0,none⟩) n cap,c]).run P w=.ok (.slice (some ⟨b,0,none⟩) (n+m) cap) (w.setRow b (cur.toList.take (n*i.size)++news++cur.toList.drop (n*i.size+news.length)).toArray):=by have hf:=hs.run (P:=P) (w':=w) rfl;have hlen:=λw'=>hs.lenOf (P:=P) w';have BJ:=ZB6 P b (n*i.size) e' news 0 cur w hb (by simpa using CP) h1;simp only[ZA6]at BJ;rcases CS with⟨ex,rfl⟩|rfl<;>simp[Builtin.append_,zI ht,zI BH,sizeOf,typeInfo,hi,hlen,hg,hf,ZAi,BJ]
theorem Rh{t tx ty e:TypeId}{i:TypeInfo}{dx:TypeDesc}(BH:P.underlying tx=some dx)(CS:(∃ex,dx=.slice ex)∨dx=.string)(ht:P.underlying t=some (.slice e))(hi:P.info? e=some i)(w:World){a:Option Addr}{news:List Value}{c:Value}(hs:DJ w i.size 0 news c):(Builtin.append_ #[t,tx] ty #[.slice a 0 0,c]).run P w=.ok (.slice a 0 0) w:=by have hf:=hs.run (P:=P) (w':=w) rfl;have hlen:=λw'=>hs.lenOf (P:=P) w';have hn:news=[]:=zR (by have :=hs.1;omega);subst hn;rcases CS with⟨ex,rfl⟩|rfl<;>cases a<;>simp[Builtin.append_,zI ht,zI BH,sizeOf,typeInfo,hi,hlen,hf,storeCells]
theorem WO{t tx ty e:TypeId}{i:TypeInfo}{z:Value}(BH:P.underlying tx=some (.int .i64))(ht:P.underlying t=some (.slice e))(hi:P.info? e=some i)(hz:i.zero=some z)(w:World){a:Option Addr}{m:Int}(h0:0≤m)(h1:m*i.bytes≤140737488355328)(h2:m≤9223372036854775807):(Builtin.append_ #[t,tx] ty #[.slice a 0 0,.int .i64 m]).run P w=if m=0 then .ok (.slice a 0 0) w else .ok (.slice (some ⟨w.heap.size,0,none⟩) m.toNat (grownCap w m.toNat 0 e)) (w.drew.alloc (.cells ((if m.toNat*i.size=0 then#[]else Builtin.zeroCells z.cells m.toNat)++Builtin.zeroCells z.cells (grownCap w m.toNat 0 e-m.toNat)) e)):=by
 have hw:IntKind.i64.wrap m=m:=NG (k:=.i64) ⟨by omega,h2⟩;have hn:¬m<0:=by omega
 have hb:¬281474976710656<m*(i.bytes:Int):=by omega
 split;·rename_i hm;subst hm;have HR:IntKind.i64.wrap 0=0:=hw;cases a<;>simp[Builtin.append_,zI ht,zI BH,sizeOf,typeInfo,zeroValue,hi,hz,Go.asInt,asIntOf,HR,storeCells]
 ·rename_i hm;have hg:¬m.toNat≤0:=by omega
  have mU:((m.toNat:Nat):Int)=m:=by omega
  have NS:¬9223372036854775807<m:=by omega
  have Tw:((m.toNat*i.bytes:Nat):Int)=m*i.bytes:=by rw[ZCg,mU]
  have YE:¬281474976710656<Builtin.nextslicecap m.toNat 0*i.bytes:=by have :=ZDW (need:=m.toNat) (old:=0) (bytes:=i.bytes) (by omega) (by omega);omega
  have ME:¬m≤0:=by omega
  have De:max m 0=m:=by omega
  have P4:∀w',(Builtin.firstCells i.size 0 (.slice a 0 0)).run P w'=.ok #[] w':=by intro w';cases a<;>simp[Builtin.firstCells,loadCells,loadCellsFrom]
  by_cases Ba:m.toNat*i.size=0;·simp[Builtin.append_,zI ht,zI BH,sizeOf,typeInfo,zeroValue,hi,hz,Go.asInt,asIntOf,hw,hn,hb,ME,De,NS,YE,Question.forced,newRow,grownCap,P4,Ba]
  ·simp[Builtin.append_,zI ht,zI BH,sizeOf,typeInfo,zeroValue,hi,hz,Go.asInt,asIntOf,hw,hn,hb,ME,De,NS,YE,Question.forced,newRow,grownCap,P4,Ba]
def LL(P:Program)(tx:TypeId)(i:TypeInfo)(z:Value)(w:World)(m:Nat)(news:List Value)(c:Value):Prop:=(∃dx,P.underlying tx=some dx∧((∃ex,dx=.slice ex)∨dx=.string)∧DJ w i.size m news c)∨P.underlying tx=some (.int .i64)∧∃k:Int,c=.int .i64 k∧0≤k∧k.toNat=m∧k*i.bytes≤140737488355328∧k≤9223372036854775807∧news=(Builtin.zeroCells z.cells m).toList
theorem gL{t tx ty e:TypeId}{i:TypeInfo}{z:Value}(ht:P.underlying t=some (.slice e))(hi:P.info? e=some i)(hz:i.zero=some z)(hzz:z.cells.size=i.size)(w:World){base:Option Addr}{n cap m:Nat}{olds news:List Value}{c:Value}(hold:(Builtin.firstCells i.size n (.slice base n cap)).run P w.drew=.ok olds.toArray w.drew)(hs:LL P tx i z w m news c)(hg:cap<n+m)(NS:((n+m:Nat):Int)≤9223372036854775807)(CP:Builtin.nextslicecap (n+m) cap*i.bytes≤281474976710656):(Builtin.append_ #[t,tx] ty #[.slice base n cap,c]).run P w=.ok (.slice (some ⟨w.heap.size,0,none⟩) (n+m) (grownCap w (n+m) cap e)) (w.drew.alloc (.cells (olds.toArray++news.toArray++Builtin.zeroCells z.cells (grownCap w (n+m) cap e-(n+m))) e)):=by
 rcases hs with⟨dx,BH,CS,hs⟩|⟨BH,k,rfl,h0,rfl,h1,h2,rfl⟩;·exact WN BH CS ht hi hz w hold hs hg NS CP
 ·have hw:IntKind.i64.wrap k=k:=NG (k:=.i64) ⟨by omega,h2⟩;have hn:¬k<0:=by omega
  have hb:¬281474976710656<k*(i.bytes:Int):=by omega
  have hg':¬n+k.toNat≤cap:=by omega
  have Pt:¬9223372036854775807<(n:Int)+max k 0:=by omega
  have Ps:¬281474976710656<Builtin.nextslicecap (n+k.toNat) cap*i.bytes:=by omega
  by_cases Ba:k.toNat*i.size=0;·have e1:Builtin.zeroCells z.cells k.toNat=#[]:=ZBv (by rw[ZBE,hzz,Ba]);simp[Builtin.append_,zI ht,zI BH,sizeOf,typeInfo,zeroValue,hi,hz,Go.asInt,asIntOf,hw,hn,hb,hg',Pt,Ps,Question.forced,newRow,grownCap,hold,e1]
  ·simp[Builtin.append_,zI ht,zI BH,sizeOf,typeInfo,zeroValue,hi,hz,Go.asInt,asIntOf,hw,hn,hb,hg',Pt,Ps,Question.forced,newRow,grownCap,hold,Ba]
theorem gK{t tx ty e e':TypeId}{i:TypeInfo}{z:Value}(ht:P.underlying t=some (.slice e))(hi:P.info? e=some i)(hz:i.zero=some z)(hzz:z.cells.size=i.size)(w:World){b:Nat}{cur:Array Value}{n cap m:Nat}{news:List Value}{c:Value}(hb:w.heap[b]?=some (.cells cur e' (0,0)))(hs:LL P tx i z w m news c)(h1:∀u∈news,u.oneCell'=true)(hg:n+m≤cap)(CP:n*i.size+news.length≤cur.size):(Builtin.append_ #[t,tx] ty #[.slice (some ⟨b,0,none⟩) n cap,c]).run P w=.ok (.slice (some ⟨b,0,none⟩) (n+m) cap) (w.setRow b (cur.toList.take (n*i.size)++news++cur.toList.drop (n*i.size+news.length)).toArray):=by
 rcases hs with⟨dx,BH,CS,hs⟩|⟨BH,k,rfl,h0,rfl,h3,h2,rfl⟩;·exact WM BH CS ht hi w hb hs h1 hg CP
 ·have hw:IntKind.i64.wrap k=k:=NG (k:=.i64) ⟨by omega,h2⟩;have hn:¬k<0:=by omega
  have hb':¬281474976710656<k*(i.bytes:Int):=by omega
  have BJ:=ZB6 P b (n*i.size) e' (Builtin.zeroCells z.cells k.toNat).toList 0 cur w hb (by simpa using CP) h1;simp only[ZA6]at BJ;by_cases Ba:k.toNat*i.size=0;·have e1:Builtin.zeroCells z.cells k.toNat=#[]:=ZBv (by rw[ZBE,hzz,Ba]);rw[e1]at BJ⊢;simp[Builtin.append_,zI ht,zI BH,sizeOf,typeInfo,zeroValue,hi,hz,Go.asInt,asIntOf,hw,hn,hb',hg,Ba,ZAi]at BJ⊢;rw[BJ];rfl
  ·simp[Builtin.append_,zI ht,zI BH,sizeOf,typeInfo,zeroValue,hi,hz,Go.asInt,asIntOf,hw,hn,hb',hg,Ba,ZAi]at BJ⊢;rw[BJ];rfl
theorem gN{t tx ty e:TypeId}{i:TypeInfo}{z:Value}(ht:P.underlying t=some (.slice e))(hi:P.info? e=some i)(hz:i.zero=some z)(w:World){a:Option Addr}{news:List Value}{c:Value}(hs:LL P tx i z w 0 news c):(Builtin.append_ #[t,tx] ty #[.slice a 0 0,c]).run P w=.ok (.slice a 0 0) w:=by
 rcases hs with⟨dx,BH,CS,hs⟩|⟨BH,k,rfl,h0,h3,h1,h2,rfl⟩;·exact Rh BH CS ht hi w hs
 ·have hk:k=0:=by omega
  subst hk;have :=WO (P:=P) (ty:=ty) BH ht hi hz w (a:=a) (m:=0) (ZAr _) (by simp) (by omega);rwa[yS rfl]at this
theorem dC{A B:List Value}{n:Nat}(h:A.length=n)(C:List Value)(k:Nat)(hk:n+B.length=k):(A++B++C).take k=A++B:=by subst hk h;rw[←yU];exact ZCu
def Oy(P:Program)(s:Sem Value)(E:AH)(L:AU)(T:Ty)(xs zs:List T.den):Prop:=∃(w:World)(K:AU)(row:Option Nat),E.w.grownBy w row∧(∀b,row=some b→(Obj.row T xs).has L∧b=L.b)∧(∀lo,Aj P ⟨w,E.S,lo⟩ K (.row T zs))∧((Obj.row T zs).has K→(Obj.row T xs).has L∧K.b=L.b∨E.w.heap.size≤K.b)∧s.run P E.w=.ok K.v w
theorem Mr(hτ:A6 P τ){ts tx ty e:TypeId}{info:TypeInfo}{z:Value}{bytes:Nat}{T:Ty}{ys:List T.den}{news:List Value}{d:Value}(ht:P.underlying ts=some (.slice e))(hi:P.info? e=some info)(hz:info.zero=some z)(hsT:info.size=T.size)(hb:info.bytes=bytes)(hzz:z.cells.size=T.size)(Ag:0<T.size)(hn1:Aq E.w E.S T ys news)(hn2:LL P tx info z E.w ys.length news d)(g:AC P E objs){l k:Nat}{xs:List T.den}{L:AU}(AZ:AA l objs=some (.row T xs))(hL:E.loc l=some L)(hat:Aj P E L (.row T xs))(hk:k≤xs.length)(h1:(k+ys.length)*bytes≤140737488355328)(h2:k+ys.length≤9223372036854775807){c0:Value}(CH:L.Part 0 k c0):Oy P (Builtin.append_ #[ts,tx] ty #[c0,d]) E L T xs (xs.take k++ys):=by
 have FR:=hn1.length;obtain⟨olds,ho1,ho2⟩:=VU hat (lo:=0) (m:=k) (by omega) CH;rw[ZCt]at ho1;have Du:=ho1.length;have Iz:(xs.take k).length=k:=by simp;omega
 have hal:(xs.take k++ys).length=k+ys.length:=by rw[yU,Iz]
 obtain⟨C7,_,hlen,e',cs,h9,BX⟩:=id hat;have done:∀(w:World)(K:AU)(row:Option Nat),E.w.grownBy w row→(∀b,row=some b→(Obj.row T xs).has L∧b=L.b)→(∀(lo:Nat→Option AU)(hx:∀b,E.S b→E.S b∧w.heap[b]?=E.w.heap[b]?),Aj P ⟨w,E.S,lo⟩ K (.row T (xs.take k++ys)))→((Obj.row T (xs.take k++ys)).has K→(Obj.row T xs).has L∧K.b=L.b∨E.w.heap.size≤K.b)→(Builtin.append_ #[ts,tx] ty #[c0,d]).run P E.w=.ok K.v w→Oy P (Builtin.append_ #[ts,tx] ty #[c0,d]) E L T xs (xs.take k++ys):=by intro w K row hw B2 BG CI hrun;have hx:=K4 g (M:=[l]) AZ hL hw B2 (L':=K) λh=>absurd (by simp) h;exact⟨w,K,row,hw,B2,λlo=>BG lo hx.S,CI,hrun⟩
 have grow:∀(base:Option Addr)(cap:Nat),c0=.slice base k cap→k≤cap→cap<k+ys.length→Oy P (Builtin.append_ #[ts,tx] ty #[c0,d]) E L T xs (xs.take k++ys):=by
  intro base cap TS IE IF;rw[TS,←hsT]at ho2;rw[TS]at done⊢;have hrun:=gL (P:=P) (ty:=ty) ht hi hz (hzz.trans hsT.symm) E.w (base:=base) (n:=k) (cap:=cap) (olds:=olds) (ho2.run rfl) hn2 IF (by omega) (ZDW IF (by rw[hb];exact h1));have Dc:=ZCx E.w (k+ys.length) cap e;have De:=ZB1 E.w (k+ys.length) cap e (by unfold maxLen;omega);have hcl:(Builtin.zeroCells z.cells (grownCap E.w (k+ys.length) cap e-(k+ys.length))).size=(grownCap E.w (k+ys.length) cap e-(k+ys.length))*T.size:=by rw[ZBE,hzz]
  refine done (E.w.drew.alloc (.cells (olds.toArray++news.toArray++Builtin.zeroCells z.cells (grownCap E.w (k+ys.length) cap e-(k+ys.length))) e)) ⟨E.w.heap.size,some ⟨E.w.heap.size,0,none⟩,k+ys.length,grownCap E.w (k+ys.length) cap e,T.size⟩ none ⟨rfl,rfl,rfl,by simp,λj hj _=>heap_alloc_old E.w.drew _ j hj⟩ λb hb=>by cases hb
   (λlo hx=>⟨rfl,Ag,hal.symm,e,_,(ho1.append hn1).mono hx,.inr ⟨_,rfl,ZA7 E.w.drew _,by rw[hal];exact Dc,by show 0<grownCap _ _ _ _;omega,De,?_,?_⟩⟩) (λ_=>.inr (zB _)) hrun;·simp only[ZBU,ZAy,Du,Iz,FR,hcl,←ZBQ];congr 1;omega
  ·simp only[ZCq];exact dC rfl _ _ (by rw[hal,Du,Iz,FR,ZBQ])
 obtain⟨a0,GN,TO⟩:=CH;rcases BX with⟨G7,rfl⟩|⟨cur,Cv,Cl,Hv,IS,MJ,IT,IU⟩
 ·have GP:k=0:=by simpa using hk
  subst GP;have GS:c0=.slice a0 0 0:=by rw[GN,G7]
  by_cases hm:ys.length=0
  ·have :ys=[]:=zR hm;subst this;have hrun:=gN (P:=P) (ty:=ty) ht hi hz E.w (a:=a0) (news:=news) (c:=d) hn2;have mD:({L with a:=a0}:AU).v=.slice a0 0 0:=by simp[AU.v,hlen,G7]
   refine done E.w {L with a:=a0} none ⟨rfl,rfl,rfl,zB _,λ_ _ _=>rfl⟩ (λb hb=>by cases hb) (λlo hx=>⟨C7,Ag,by simpa using hlen,e,[],rfl,.inl ⟨G7,rfl⟩⟩) (λhh=>absurd G7 hh) (by rw[GS,mD];exact hrun)
  ·exact grow a0 0 GS (zB _) (by omega)
 ·have GS:c0=.slice (some ⟨L.b,0,none⟩) k L.cap:=by rw[GN,TO (by omega)];simp[Cv,ZAi]
  rcases ZAn L.cap (k+ys.length)with Tv|Dc;·exact grow _ L.cap GS (by omega) Tv
  ·have CP:k*info.size+news.length≤cur.size:=by rw[hsT,FR,IT,←ZBQ];exact ZAQ _ Dc
   have hrun:=gK (P:=P) (ty:=ty) ht hi hz (hzz.trans hsT.symm) E.w Cl hn2 hn1.one Dc CP;have CI:(Obj.row T xs).has L:=by simp only[Obj.has];omega
   refine done _ ⟨L.b,some ⟨L.b,0,none⟩,k+ys.length,L.cap,T.size⟩ (some L.b) (Pr _ _ _) (λb e=>⟨CI,by cases e;rfl⟩) (λlo hx=>⟨rfl,Ag,hal.symm,e',_,(ho1.append hn1).mono hx,.inr ⟨_,rfl,ZDQ _ _ _ _ _ _ Cl,by rw[hal];exact Dc,IS,MJ,?_,?_⟩⟩) (λ_=>.inl ⟨CI,rfl⟩) (by rw[GS];exact hrun);·simp only[ZAy,yU,zG,ZAF,zT];omega
   ·have NY:cur.toList.take (k*T.size)=olds:=by
     obtain⟨_,_,oY⟩:True∧True∧cs.take (k*T.size)=cur.toList.take (k*T.size):=by refine⟨trivial,trivial,?_⟩;rw[←IU,ZDV];congr 1;have :=ZAQ T.size hk;omega
     rw[←oY];rcases ho2.2 with⟨a,cap,hq,P0⟩|⟨s,hq,_⟩
     ·rw[GS]at hq;cases hq;apply ZAZ;intro j;have TW:=h9.length;have Yr:=ZAQ T.size hk;rw[Iz]at Du;by_cases hj:j<k*T.size
      ·have GP:0<k:=ZCy λe=>by rw[e]at hj;simp at hj
       obtain⟨ad,mI,hc⟩:=P0 GP;cases mI;have Yp:j<olds.length:=by omega
       have :=hc j olds[j] (zK Yp);rw[ZAi,G3 Cl,ZAJ]at this;rw[zP,yS hj,←IU,zP,yS (by omega),zK Yp];simpa using this
      ·rw[ZAW (by simp;omega),ZAW (by omega)]
     ·rw[GS]at hq;cases hq
    rw[hsT,NY];exact dC rfl _ _ (by rw[hal,Du,Iz,FR,ZBQ])
theorem Ri(hτ:A6 P τ){ts tx ty e:TypeId}{info:TypeInfo}{z:Value}{bytes:Nat}{T:Ty}{ys:List T.den}{news:List Value}{d:Value}(ht:P.underlying ts=some (.slice e))(hi:P.info? e=some info)(hz:info.zero=some z)(hsT:info.size=T.size)(hb:info.bytes=bytes)(hzz:z.cells.size=T.size)(Ag:0<T.size)(hn1:Aq E.w E.S T ys news)(hn2:LL P tx info z E.w ys.length news d)(g:AC P E objs){l k:Nat}{xs:List T.den}{L:AU}(AZ:AA l objs=some (.row T xs))(hL:E.loc l=some L)(hat:Aj P E L (.row T xs))(hk:k≤xs.length)(h1:(k+ys.length)*bytes≤140737488355328)(h2:k+ys.length≤9223372036854775807){p:Option Prop}{c0:Value}(CH:L.Part 0 k c0):BO P (Builtin.append_ #[ts,tx] ty #[c0,d]) E objs ⟨p,.osl l,some (l,.row T (xs.take k++ys),true)⟩:=by obtain⟨w,K,row,hw,B2,BG,CI,hrun⟩:=Mr (ty:=ty) hτ ht hi hz hsT hb hzz Ag hn1 hn2 g AZ hL hat hk h1 h2 CH;have hp:=AC.put g (mv:=true) (o':=.row T (xs.take k++ys)) (L':=K) AZ hL hw B2 (λh=>by cases h) (BG _) CI;exact⟨_,K.v,hrun,hp.1,hp.2,.osl (Bi _ _ _ _)⟩
theorem VT{l:Nat}{L:AU}{T:Ty}{xs ys:List T.den}{vs:List Value}{lo:Nat}(g:AC P E objs)(hl:AA l objs=some (.row T xs))(hL:E.loc l=some L)(hat:Aj P E L (.row T xs))(F0:lo+ys.length≤xs.length)(Ab:0<ys.length∨L.cap≠0)(hv:Aq E.w E.S T ys vs):∃w,(storeCells ⟨L.b,lo*T.size,none⟩ vs).run P E.w=.ok () w∧AC P (E.setL w l L) (edit objs (some (l,.row T (xs.take lo++ys++xs.drop (lo+ys.length)),false)))∧BF E objs (E.setL w l L) (edit objs (some (l,.row T (xs.take lo++ys++xs.drop (lo+ys.length)),false))) []:=by
 obtain⟨C7,Ag,hlen,e,cs,h9,BX⟩:=id hat;rcases BX with⟨CH,rfl⟩|⟨cur,Cv,Cl,Hv,IS,MJ,IT,IU⟩
 ·simp only[zF]at F0;rcases Ab with h|h;·omega
  ·exact absurd CH h
 ·have QJ:=hv.length;have hcl:=h9.length;have hmul:(lo+ys.length)*T.size≤xs.length*T.size:=ZAQ _ F0;have oF:xs.length*T.size≤L.cap*T.size:=ZAQ _ Hv;have mJ:(lo+ys.length)*T.size=lo*T.size+ys.length*T.size:=ZBQ _ _ _;have CP:lo*T.size+vs.length≤cur.size:=by rw[QJ,IT];omega
  have BJ:=ZB6 P L.b (lo*T.size) e vs 0 cur E.w Cl (by simpa using CP) hv.one;simp only[ZA6]at BJ;have GR:(xs.take lo++ys++xs.drop (lo+ys.length)).length=xs.length:=by simp;omega
  have hcells:Aq E.w E.S T (xs.take lo++ys++xs.drop (lo+ys.length)) (cs.take (lo*T.size)++vs++cs.drop ((lo+ys.length)*T.size)):=((h9.take lo).append hv).append (h9.drop _);have BG:=VS (mv:=false) (ys:=xs.take lo++ys++xs.drop (lo+ys.length)) (cur':=cur.toList.take (lo*T.size)++vs++cur.toList.drop (lo*T.size+vs.length)) g hl hL hat IS (by omega) (λ_=>GR) (by
   rw[GR];refine Eq.mp ?_ hcells;congr 1;rw[←IU,mJ];apply ZAZ;intro j;have C8:=Gx (A:=cur.toList) (vs:=vs) (o:=lo*T.size) (by simpa using CP) j;have Eb:=Gx (A:=cur.toList.take (xs.length*T.size)) (vs:=vs) (o:=lo*T.size) (by rw[QJ];simp;omega) j;rw[QJ]at C8 Eb;rw[Eb,zP,zP,QJ,C8];repeat' split
   all_goals first|rfl|omega) (by simp only[yU,zG,ZAF,zT];omega);have mA:({L with len:=(xs.take lo++ys++xs.drop (lo+ys.length)).length}:AU)=L:=by rw[GR,←hlen]
  rw[mA]at BG;exact⟨_,BJ,BG.1,BG.2⟩
theorem gM(hτ:A6 P τ){ts tx ty e:TypeId}{dx:TypeDesc}{info:TypeInfo}{T:Ty}{ys:List T.den}{news:List Value}{d:Value}(BH:P.underlying tx=some dx)(CS:(∃ex,dx=.slice ex)∨dx=.string)(ht:P.underlying ts=some (.slice e))(hi:P.info? e=some info)(hsT:info.size=T.size)(hn1:Aq E.w E.S T ys news)(hn2:DJ E.w info.size ys.length news d)(g:AC P E objs){l k:Nat}{xs:List T.den}{L:AU}(AZ:AA l objs=some (.row T xs))(hL:E.loc l=some L)(hat:Aj P E L (.row T xs))(hk:k+ys.length≤xs.length){p:Option Prop}{c0:Value}(CH:L.Part 0 k c0):BO P (Builtin.append_ #[ts,tx] ty #[c0,d]) E objs ⟨p,.osp l 0 (k+ys.length),some (l,.row T (xs.take k++ys++xs.drop (k+ys.length)),false)⟩:=by
 obtain⟨a0,GN,TO⟩:=CH;obtain⟨C7,Ag,hlen,e',cs,h9,BX⟩:=id hat;rcases BX with⟨G7,rfl⟩|⟨cur,Cv,Cl,Hv,IS,MJ,IT,IU⟩
 ·simp only[zF]at hk;have GP:k=0:=by omega
  have :ys=[]:=zR (by omega);subst GP this;have GS:c0=.slice a0 0 0:=by rw[GN,G7]
  have hrun:=Rh (P:=P) (ty:=ty) BH CS ht hi E.w (a:=a0) (news:=news) (c:=d) (by simpa using hn2);have hp:=AC.put g (mv:=false) (L':=L) (o':=.row T []) (w:=E.w) (row:=none) AZ hL ⟨rfl,rfl,rfl,zB _,λ_ _ _=>rfl⟩ (λb hb=>by cases hb) (λ_=>rfl) (by
   refine hat.keep (⟨λb hb=>⟨hb,rfl⟩,λj K _ hK=>?_⟩:Bv E (E.setL E.w l L) []) λ_=>rfl;by_cases e:j=l;·subst e;rw[hL]at hK;cases hK;exact Bi _ _ _ _
   ·rw[BZ _ _ _ e];exact hK) λhh=>.inl ⟨hh,rfl⟩;exact⟨E.setL E.w l L,.slice a0 0 0,by rw[GS];exact hrun,by simpa using hp.1,by simpa using hp.2,.osp (Bi _ _ _ _) ⟨a0,by simp[G7],λh=>absurd G7 h⟩⟩
 ·have FR:=hn1.length;have GS:c0=.slice (some ⟨L.b,0,none⟩) k L.cap:=by rw[GN,TO (by omega)];simp[Cv,ZAi]
  have CP:k*info.size+news.length≤cur.size:=by rw[hsT,FR,IT,←ZBQ];exact ZAQ _ (by omega)
  have hrun:=WM (P:=P) (ty:=ty) BH CS ht hi E.w Cl hn2 hn1.one (by omega:k+ys.length≤L.cap) CP;obtain⟨w,BJ,g1,g2⟩:=VT (lo:=k) g AZ hL hat hk (.inr (by omega)) hn1;have UC:=ZB6 P L.b (k*T.size) e' news 0 cur E.w Cl (by rw[←hsT];simpa using CP) hn1.one;simp only[ZA6]at UC;rw[BJ]at UC;cases UC;refine⟨_,.slice (some ⟨L.b,0,none⟩) (k+ys.length) L.cap,?_,g1,g2,.osp (Bi _ _ _ _) ⟨some ⟨L.b,0,none⟩,by simp,λ_=>by simp[Cv,ZAi]⟩⟩;rw[GS,hrun,hsT];rfl
theorem eW(z:Array Value)(n:Nat)(c:Array Value)(hz:0<z.size):(Builtin.zeroCells z n++c).toList.take (n*z.size)=(List.replicate n z.toList).flatten:=by
 have h:=Uc (z:=z) (n:=n) (c:=n) hz (zB _);have e:madeCells z (n*z.size)=Builtin.zeroCells z n:=rfl;have hs:(Builtin.zeroCells z n).toList.length=n*z.size:=by rw[zT,ZBE]
 rw[e,ZA3 (by omega)]at h;rw[ZCq,←hs,ZCu,h]
theorem eT{tx:TypeId}{i:TypeInfo}{z:Value}{w w0:World}{S:Nat→Prop}{T:Ty}{m:Int}{k:Nat}(BH:P.underlying tx=some (.int .i64))(h0:0≤m)(h1:(k+m.toNat)*i.bytes≤140737488355328)(h2:k+m.toNat≤9223372036854775807)(hzz:z.cells.size=T.size)(Ag:0<T.size)(hc:BE w S T T.dflt z.cells.toList):Aq w S T (List.replicate m.toNat T.dflt) (Builtin.zeroCells z.cells m.toNat).toList∧LL P tx i z w0 (List.replicate m.toNat T.dflt).length (Builtin.zeroCells z.cells m.toNat).toList (.int .i64 m):=by
 have hr:=MZ hc m.toNat;have ht:=eW z.cells m.toNat #[] (by omega);rw[Array.append_empty,ZA3 (by rw[zT,ZBE];exact zB _)]at ht;rw[←ht]at hr;refine⟨hr,.inr ⟨BH,m,rfl,h0,(ZAD ..).symm,?_,by omega,by rw[ZAD]⟩⟩;have hm:((m.toNat:Nat):Int)=m:=by omega
 have :=zV (ZAQ i.bytes (Nat.le_add_left m.toNat k)) h1;rw[←hm,←ZCg];omega
theorem jQ(hτ:A6 P τ){ts tx ty:TypeId}{s x:V}{out:Ah}(h:LX τ os n ts tx s x=some out)(hs:CG os objs)(ho:A0 out.ob)(g:AC P E objs)(hf:E.loc n=none){c d:Value}(rs:Z P E s c)(rx:Z P E x d):BO P (Builtin.append_ #[ts,tx] ty #[c,d]) E objs out:=by
 unfold LX at h;split at h
 ·rename_i e sz by_ zero co BC;have ht:P.underlying ts=some (.slice e):=(hτ ts _ BC).kind;split at h
  ·rename_i k size bytes zero' T hei;have hei:=hτ e _ hei;obtain⟨hTs,Ag,Ba⟩:=hei.code T rfl;have hTs:T.size=size:=hTs;have Ag:0<T.size:=by rw[hTs];exact Ag
   obtain⟨info,z,hi,Ae,hb,hz,B3,Cy⟩:=hei.info;have Ae:info.size=size:=Ae;have hb:info.bytes=bytes:=hb;have Cy:z.cells.size=size:=Cy;have hzz:z.cells.size=T.size:=by rw[Cy,hTs]
   have hsT:info.size=T.size:=by rw[Ae,hTs]
   split at h
   ·rename_i he;obtain⟨dx,BH,CS⟩:∃dx,P.underlying tx=some dx∧((∃ex,dx=.slice ex)∨dx=.string):=by
     unfold Vd at he;split at he;·rename_i h;exact⟨_,(hτ tx _ h).kind,.inl ⟨_,rfl⟩⟩
     ·rename_i h;exact⟨_,(hτ tx _ h).kind,.inr rfl⟩
     ·cases he
    split at h
    ·rename_i ys p Dv;have src:A0 p→∃cs,Aq E.w E.S T ys cs∧DJ E.w info.size ys.length cs d:=λhp=>by rw[hsT];exact cS Dv hs hp g rx
     have conj_inv:∀{q:Prop},Gl q p→A0 p∧q:=λ{q}h=>by cases p with|none=>exact⟨trivial,h⟩|some r=>exact h
     split at h;·cases h;obtain⟨hp,h1,h2⟩:=conj_inv ho;obtain⟨news,hn1,hn2⟩:=src hp;have FR:=hn1.length;cases rs with|nils a=>
      by_cases hm:ys.length=0;·have :ys=[]:=zR hm;subst this;have hrun:=Rh (P:=P) (ty:=ty) BH CS ht hi E.w (a:=a) (news:=news) (c:=d) (by simpa using hn2);have hp:=AC.push g (w:=E.w) (L:=⟨0,a,0,0,T.size⟩) (o:=.row T []) hf ⟨rfl,rfl,rfl,zB _,λ_ _ _=>rfl⟩ ⟨rfl,Ag,rfl,e,[],rfl,.inl ⟨rfl,rfl⟩⟩ λhh=>absurd rfl hh;exact⟨E.setL E.w n ⟨0,a,0,0,T.size⟩,_,hrun,hp.1,hp.2,.osl (Bi _ _ _ _)⟩
      ·have hrun:=WN (P:=P) (ty:=ty) BH CS ht hi hz E.w (base:=a) (n:=0) (cap:=0) (olds:=[]) (by cases a<;>simp[Builtin.firstCells,loadCells,loadCellsFrom]) hn2 (by omega) (by omega) (ZDW (by omega) (by rw[ZAJ,hb];exact h1));simp only[ZAJ]at hrun;have Dc:=ZCx E.w ys.length 0 e;have De:=ZB1 E.w ys.length 0 e (by unfold maxLen;omega);obtain⟨E',hw,g1,g2,g3⟩:=OX (cap:=grownCap E.w ys.length 0 e) g hf (w:=E.w.drew.alloc (.cells (([]:List Value).toArray++news.toArray++Builtin.zeroCells z.cells (grownCap E.w ys.length 0 e-ys.length)) e)) ⟨rfl,rfl,rfl,by simp,λj hj _=>heap_alloc_old E.w.drew _ j hj⟩ (ZA7 E.w.drew _) Ag Dc De (by simp only[ZBU,ZAy,zF,FR,ZBE,hzz,ZAJ,←ZBQ];congr 1;omega) hn1 (by simp only[ZCq,ZAk];rw[←FR];exact ZCu);exact⟨E',_,by rw[hw];exact hrun,g1,g2,.osl g3⟩
     ·rename_i l;split at h
      ·rename_i t xs hcs;split at h;·rename_i hT';subst hT';cases h;obtain⟨hp,h1,h2⟩:=conj_inv ho;obtain⟨news,hn1,hn2⟩:=src hp;obtain⟨L,hL,AZ,hat⟩:=g.get hs hcs;obtain⟨K,hK,rfl⟩:=E8 rs;rw[hL]at hK;cases hK;have :=Ri (ty:=ty) (p:=some (Gl ((xs.length+ys.length)*bytes≤140737488355328∧xs.length+ys.length≤9223372036854775807) p)) hτ ht hi hz hsT hb hzz Ag hn1 (.inl ⟨dx,BH,CS,hn2⟩) g AZ hL hat (zB _) h1 h2 (Ky hat);rw[zA]at this;exact this
       ·cases h
      ·cases h
     ·rename_i l k;split at h
      ·rename_i t xs hcs;split at h
       ·rename_i hT';subst hT';split at h;·cases h;obtain⟨hp,hk⟩:=conj_inv ho;obtain⟨news,hn1,hn2⟩:=src hp;obtain⟨L,hL,AZ,hat⟩:=g.get hs hcs;obtain⟨K,hK,EN⟩:=Hw rs;rw[hL]at hK;cases hK;exact gM (ty:=ty) hτ BH CS ht hi hsT hn1 hn2 g AZ hL hat hk EN
        cases h;obtain⟨hk,ho⟩:_∧_:=ho;obtain⟨hp,h1,h2⟩:=conj_inv ho;obtain⟨news,hn1,hn2⟩:=src hp;obtain⟨L,hL,AZ,hat⟩:=g.get hs hcs;obtain⟨K,hK,EN⟩:=Hw rs;rw[hL]at hK;cases hK;exact Ri (ty:=ty) hτ ht hi hz hsT hb hzz Ag hn1 (.inl ⟨dx,BH,CS,hn2⟩) g AZ hL hat hk h1 h2 EN
       ·cases h
      ·cases h
     ·cases h
    ·cases h
   ·split at h
    ·rename_i BH;have BH:P.underlying tx=some (.int .i64):=(hτ tx _ BH).kind;split at h
     ·rename_i m0;obtain⟨m,ME⟩:∃m:Int,m=m0:=⟨m0,rfl⟩;subst ME;have hd:=rx.int_inv;subst hd;split at h;·cases h;obtain⟨h0,h1,h2⟩:0≤m∧m*bytes≤140737488355328∧m≤9223372036854775807:=ho;cases rs with|nils a=>
       have hrun:=WO (P:=P) (ty:=ty) BH ht hi hz E.w (a:=a) h0 (by rw[hb];exact h1) h2;split at hrun;·rename_i hm;subst hm;have hp:=AC.push g (w:=E.w) (L:=⟨0,a,0,0,T.size⟩) (o:=.row T []) hf ⟨rfl,rfl,rfl,zB _,λ_ _ _=>rfl⟩ ⟨rfl,Ag,rfl,e,[],rfl,.inl ⟨rfl,rfl⟩⟩ λhh=>absurd rfl hh;exact⟨E.setL E.w n ⟨0,a,0,0,T.size⟩,_,hrun,hp.1,hp.2,.osl (Bi _ _ _ _)⟩
       ·rename_i hm;have Dc:=ZCx E.w m.toNat 0 e;have De:=ZB1 E.w m.toNat 0 e (by unfold maxLen;omega);have MH:¬m.toNat*info.size=0:=by rw[hsT];have :=Nat.mul_pos (show 0<m.toNat by omega) Ag;omega
        rw[yP MH]at hrun;obtain⟨E',hw,g1,g2,g3⟩:=OX (xs:=List.replicate m.toNat T.dflt) (cap:=grownCap E.w m.toNat 0 e) g hf (w:=E.w.drew.alloc (.cells (Builtin.zeroCells z.cells m.toNat++Builtin.zeroCells z.cells (grownCap E.w m.toNat 0 e-m.toNat)) e)) ⟨rfl,rfl,rfl,by simp,λj hj _=>heap_alloc_old E.w.drew _ j hj⟩ (ZA7 E.w.drew _) Ag (by simpa using Dc) De (by simp only[ZBU,ZBE,hzz,←ZBQ];congr 1;omega) (MZ (Ba E.w E.S) m.toNat) (by rw[ZAD,←hzz,eW _ _ _ (by omega),←B3]);refine⟨E',_,by rw[hw];exact hrun,g1,g2,?_⟩;rw[ZAD]at g3;exact .osl g3
      ·rename_i l;split at h
       ·rename_i t xs hcs;split at h;·rename_i hT';subst hT';cases h;obtain⟨h0,h1,h2⟩:0≤m∧(xs.length+m.toNat)*bytes≤140737488355328∧xs.length+m.toNat≤9223372036854775807:=ho;obtain⟨L,hL,AZ,hat⟩:=g.get hs hcs;obtain⟨K,hK,rfl⟩:=E8 rs;rw[hL]at hK;cases hK;obtain⟨hn1,hn2⟩:=eT BH h0 (by rw[hb];exact h1) h2 hzz Ag (B3▸Ba E.w E.S) (w0:=E.w);have :=Ri (ty:=ty) (p:=some (0≤m∧(xs.length+m.toNat)*bytes≤140737488355328∧xs.length+m.toNat≤9223372036854775807)) hτ ht hi hz hsT hb hzz Ag hn1 hn2 g AZ hL hat (zB _) (by rw[ZAD];exact h1) (by rw[ZAD];exact h2) (Ky hat);rw[zA]at this;exact this
        ·cases h
       ·cases h
      ·cases h
     ·cases h
    ·cases h
  ·cases h
 ·cases h
theorem jP(hτ:A6 P τ){ts tx ty:TypeId}{s x:V}{ob:Option Prop}{v:V}{l:Nat}{T:Ty}{zs:List T.den}(h:LX τ os n ts tx s x=some ⟨ob,v,some (l,.row T zs,true)⟩)(hs:CG os objs)(ho:A0 ob)(g:AC P E objs){c d:Value}(rs:Z P E s c)(rx:Z P E x d):v=.osl l∧∃L xs,AA l objs=some (.row T xs)∧E.loc l=some L∧Oy P (Builtin.append_ #[ts,tx] ty #[c,d]) E L T xs zs:=by
 unfold LX at h;split at h
 ·rename_i e sz by_ zero co BC;have ht:P.underlying ts=some (.slice e):=(hτ ts _ BC).kind;split at h
  ·rename_i k size bytes zero' T hei;have hei:=hτ e _ hei;obtain⟨hTs,Ag,Ba⟩:=hei.code T rfl;have hTs:T.size=size:=hTs;have Ag:0<T.size:=by rw[hTs];exact Ag
   obtain⟨info,z,hi,Ae,hb,hz,B3,Cy⟩:=hei.info;have Ae:info.size=size:=Ae;have hb:info.bytes=bytes:=hb;have Cy:z.cells.size=size:=Cy;have hzz:z.cells.size=T.size:=by rw[Cy,hTs]
   have hsT:info.size=T.size:=by rw[Ae,hTs]
   split at h
   ·rename_i he;obtain⟨dx,BH,CS⟩:∃dx,P.underlying tx=some dx∧((∃ex,dx=.slice ex)∨dx=.string):=by
     unfold Vd at he;split at he;·rename_i h;exact⟨_,(hτ tx _ h).kind,.inl ⟨_,rfl⟩⟩
     ·rename_i h;exact⟨_,(hτ tx _ h).kind,.inr rfl⟩
     ·cases he
    split at h
    ·rename_i ys p Dv;have src:A0 p→∃cs,Aq E.w E.S T ys cs∧DJ E.w info.size ys.length cs d:=λhp=>by rw[hsT];exact cS Dv hs hp g rx
     have conj_inv:∀{q:Prop},Gl q p→A0 p∧q:=λ{q}h=>by cases p with|none=>exact⟨trivial,h⟩|some r=>exact h
     split at h;·cases h
     ·rename_i l;split at h
      ·rename_i t xs hcs;split at h;·rename_i hT';subst hT';cases h;obtain⟨hp,h1,h2⟩:=conj_inv ho;obtain⟨news,hn1,hn2⟩:=src hp;obtain⟨L,hL,AZ,hat⟩:=g.get hs hcs;obtain⟨K,hK,rfl⟩:=E8 rs;rw[hL]at hK;cases hK;have :=Mr (ty:=ty) hτ ht hi hz hsT hb hzz Ag hn1 (.inl ⟨dx,BH,CS,hn2⟩) g AZ hL hat (zB _) h1 h2 (Ky hat);rw[zA]at this;exact⟨rfl,L,xs,AZ,hL,this⟩
       ·cases h
      ·cases h
     ·rename_i l k;split at h
      ·rename_i t xs hcs;split at h
       ·rename_i hT';subst hT';split at h;·cases h
        cases h;obtain⟨hk,ho⟩:_∧_:=ho;obtain⟨hp,h1,h2⟩:=conj_inv ho;obtain⟨news,hn1,hn2⟩:=src hp;obtain⟨L,hL,AZ,hat⟩:=g.get hs hcs;obtain⟨K,hK,EN⟩:=Hw rs;rw[hL]at hK;cases hK;exact⟨rfl,L,xs,AZ,hL,Mr (ty:=ty) hτ ht hi hz hsT hb hzz Ag hn1 (.inl ⟨dx,BH,CS,hn2⟩) g AZ hL hat hk h1 h2 EN⟩
       ·cases h
      ·cases h
     ·cases h
    ·cases h
   ·split at h
    ·rename_i BH;have BH:P.underlying tx=some (.int .i64):=(hτ tx _ BH).kind;split at h
     ·rename_i m0;obtain⟨m,ME⟩:∃m:Int,m=m0:=⟨m0,rfl⟩;subst ME;have hd:=rx.int_inv;subst hd;split at h;·cases h
      ·rename_i l;split at h
       ·rename_i t xs hcs;split at h;·rename_i hT';subst hT';cases h;obtain⟨h0,h1,h2⟩:0≤m∧(xs.length+m.toNat)*bytes≤140737488355328∧xs.length+m.toNat≤9223372036854775807:=ho;obtain⟨L,hL,AZ,hat⟩:=g.get hs hcs;obtain⟨K,hK,rfl⟩:=E8 rs;rw[hL]at hK;cases hK;obtain⟨hn1,hn2⟩:=eT BH h0 (by rw[hb];exact h1) h2 hzz Ag (B3▸Ba E.w E.S) (w0:=E.w);have :=Mr (ty:=ty) hτ ht hi hz hsT hb hzz Ag hn1 hn2 g AZ hL hat (zB _) (by rw[ZAD];exact h1) (by rw[ZAD];exact h2) (Ky hat);rw[zA]at this;exact⟨rfl,L,xs,AZ,hL,this⟩
        ·cases h
       ·cases h
      ·cases h
     ·cases h
    ·cases h
  ·cases h
 ·cases h
end
end Go.Proofs.YtldikbpclaeajaaGreatDoor
