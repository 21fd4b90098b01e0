/- Part of a proof that a law of the program holds for every input: how abstract states follow the program. No conditions. -/
import Derived.Below
import Derived.IntWalk
import Derived.KernelRfl
import Derived.Laws.AppendOwn
import Derived.Laws.BytesString
import Derived.Laws.MakeOwn
import Derived.Lib.AppendIntMem
import Derived.Lib.AppendStr
import Derived.OrdersIn
import Derived.RangeFuncLeaves
namespace Go.Proofs.YtldikbpclaeajaaDoor
open Go
set_option linter.defProp false
def dJ:=@Nat.eq_of_beq_eq_true
def dK:=@if_neg
def dM:=@List.getD_eq_getElem?_getD
def dO:=@if_pos
def dQ:=@Array.getD_eq_getD_getElem?
def dT:=@Nat.le_refl
def dU:=@Go.run_underlying
def dW:=@List.length_append
def dX:=@List.length_cons
def dY:=@List.getElem?_eq_getElem
def dZ:=@List.eq_nil_of_length_eq_zero
def eC:=@List.length_nil
def eD:=@List.take_length
def eE:=@List.getElem?_take
def eF:=@Go.Result.andThen_ok
def eG:=@Array.length_toList
def eJ:=@Nat.le_of_ble_eq_true
def eL:=@Option.map_eq_some_iff
def eM:=@List.length_take
def eO:=@Nat.le_trans
def eP:=@Bool.and_eq_true
def eQ:=@Go.Sem.run_bind
def eR:=@congrArg
def eS:=@Ne.symm
def eT:=@Nat.mul_le_mul_right
def eU:=@List.length_replicate
def eW:=@Bool.false_eq_true
def eZ:=@Array.getElem?_eq_getElem
def fB:=@List.length_map
def fC:=@List.mem_append
def fD:=@Array.getElem?_toList
def fE:=@Nat.zero_add
def fG:=@List.length_drop
def fH:=@List.getElem?_append_right
def fI:=@List.getElem?_append_left
def fJ:=@not_or
def fK:=@List.map_cons
def fL:=@Nat.succ_mul
def fM:=@List.getElem?_eq_none
def fO:=@Go.Addr.add_lit
def fP:=@List.ext_getElem?
def fQ:=@Go.Sem.run_pure
def fS:=@Nat.ne_of_beq_eq_false
def fT:=@List.getElem?_map
def fV:=@Go.World.grownBy_alloc
def fW:=@Nat.zero_le
def fY:=@Bool.not_true
def fZ:=@Nat.add_zero
def gA:=@List.append_assoc
def gB:=@Option.some.injEq
def gC:=@List.foldl_cons
def gD:=@List.take_append_drop
def gF:=@Nat.lt_of_lt_of_le
def gH:=@List.mem_of_getElem?
def gI:=@List.size_toArray
def gK:=@if_false
def gL:=@Prod.mk.injEq
def gM:=@List.getElem?_drop
def gN:=@Go.heap_alloc_new
def gO:=@Nat.add_mul
def gR:=@List.flatten_cons
def gV:=@Go.size_zeroCells
def gW:=@List.take_of_length_le
def hE:=@List.cons.injEq
def hG:=@List.nil_append
def hN:=@Nat.mul_one
def hP:=@if_true
def hY:=@Option.getD_some
def iA:=@List.drop_succ_cons
def iB:=@List.replicate_succ
def iC:=@Array.eq_empty_of_size_eq_zero
def iG:=@Go.run_storeCells_at
def iJ:=@Nat.lt_or_ge
def iQ:=@Nat.le_succ
def iR:=@List.getElem?_range
def iY:=@Array.size_append
def iZ:=@List.length_range
def jI:=@List.getElem?_set_ne
def jL:=@Nat.zero_mul
def jN:=@Array.toList_append
def jQ:=@List.take_succ_cons
def jT:=@List.drop_zero
def jU:=@List.take_left
def jV:=@List.take_zero
def jW:=@Nat.pos_of_ne_zero
def jX:=@Go.grownCap_le_maxLen
def kC:=@Array.ext'
def kD:=@Array.mapM_eq_mapM_toList
def kG:=@List.getElem_mem
def kN:=@Int.natCast_mul
def kS:=@List.drop_of_length_le
def kV:=@Go.setRow_heap
def lA:=@Go.growslice_fits
def lB:=@Array.getElem?_range
def lC:=@Array.toArray_toList
def lG:=@Nat.add_assoc
def lK:=@Array.foldl_toList
def lL:=@Array.getElem?_map
def lT:=@Go.run_loadCells_list
def mC:=@Int.le_refl
def mD:=@Go.grownCap_ge
def mJ:=@Nat.lt_succ_self
def mK:=@Nat.mod_eq_of_lt
set_option linter.unusedSimpArgs false
set_option linter.unusedVariables false
theorem My{α:Type}:∀(q:Ask α)(w:World),w.drawn≤(w.ask q).2.drawn
 |.done a,w=>by simp[World.ask]|.ask what range k,w=>by
  simp only[World.ask];split;·exact My _ _
  ·exact eO (iQ _) (My _ {w with drawn:=w.drawn+1})
theorem bF(w:World)(c:Sys):w.drawn≤(w.sys c).2.drawn:=by
 have h:=My (Kernel.perform c w.os) w;unfold World.sys;split;·exact dT _
 ·rename_i r os w' he;rw[he]at h;exact h
theorem bP{p:Program}{w w':World}{a:Addr}{u:TypeId}{k:Addr}{v:Value}{at_:Bool}{l:List Addr}(h:w.viewStore p a u k v at_=.ok (w',l)):w'.drawn=w.drawn:=by
 simp only[World.viewStore,bind,Except.bind,pure,Except.pure]at h;repeat' split at h
 all_goals first|(cases h;rfl;done)|(cases h;done)|skip
theorem XE{p:Program}{w w':World}{a:Addr}{v:Value}{b:Bool}{l:List Addr}(h:w.farStore p a v b=.ok (w',l)):w'.drawn=w.drawn:=by
 unfold World.farStore at h;split at h
 ·split at h;·rename_i r hr;cases h;exact bP hr
  ·cases h
 ·cases h
theorem MP{α:Type}{p:Program}:∀(s:Sem α)(w:World)(a:α)(w':World),s.run p w=.ok a w'→w.drawn≤w'.drawn:=by intro s;induction s with
 |pure x=>intro w a w' h;simp only[Sem.run]at h;cases h;exact dT _|load m ad k ih=>
  intro w a w' h;simp only[Sem.run]at h;split at h;·exact ih _ _ _ _ h
  ·split at h;·exact ih _ _ _ _ h
   ·cases h|store m ad v k ih=>intro w a w' h;cases v<;>simp only[Sem.run]at h<;>first
   |(cases h;done)
   | (split at h
      ·split at h;·cases h
       ·exact ih (w.setCell ad _) _ _ h
      ·split at h;·rename_i w1 l1 hf;exact eO (Nat.le_of_eq (XE hf).symm) (ih w1 _ _ h)
       ·cases h)
 |new o k ih=>intro w a w' h;simp only[Sem.run]at h;exact ih _ {w with heap:=w.heap.push o} _ _ h|shape r k ih=>intro w a w' h;simp only[Sem.run]at h;exact ih _ _ _ _ h|freeze ad n k ih=>
  intro w a w' h;simp only[Sem.run]at h;have :=ih (w.freeze ad n) _ _ h;have e:(w.freeze ad n).drawn=w.drawn:=by unfold World.freeze;split<;>rfl
  omega|frozen ad k ih=>intro w a w' h;simp only[Sem.run]at h;exact ih _ _ _ _ h|getObj r k ih=>
  intro w a w' h;simp only[Sem.run]at h;split at h;·cases h
  ·exact ih _ _ _ _ h
  ·cases h|setObj r o k ih=>
  intro w a w' h;simp only[Sem.run]at h;split at h;·cases h
  ·exact ih {w with heap:=w.heap.setIfInBounds r o} _ _ h
  ·cases h|choose q k ih=>
  intro w a w' h;simp only[Sem.run]at h;split at h;·exact ih _ _ _ _ h
  ·exact eO (iQ _) (ih _ _ _ _ h)|sys c k ih=>intro w a w' h;simp only[Sem.run]at h;exact eO (bF w c) (ih _ _ _ _ h)|program k ih=>intro w a w' h;simp only[Sem.run]at h;exact ih _ _ _ _ h|mark m k ih=>intro w a w' h;simp only[Sem.run]at h;exact ih w _ _ h|halt h0=>intro w a w' h;simp only[Sem.run]at h;cases h
inductive Ty where|int(k:IntKind)|bool|str|sl(t:Ty)|pair(a b:Ty)|unit deriving DecidableEq
@[reducible]def Ty.den:Ty→Type|.int _=>Int|.bool=>Bool|.str=>ByteArray|.sl t=>List t.den|.pair a b=>a.den×b.den|.unit=>Unit
def Ty.size:Ty→Nat|.int _|.bool|.str|.sl _=>1|.pair a b=>a.size+b.size|.unit=>0
def Ty.dflt:(t:Ty)→t.den|.int _=>(0:Int)|.bool=>false|.str=>ByteArray.empty|.sl _=>[]|.pair a b=>(a.dflt,b.dflt)|.unit=>()
@[reducible]def A8:List Ty→Type|[]=>Unit|[t]=>t.den|t::u::l=>t.den×A8 (u::l)
inductive V where|any|d(t:Ty)(x:t.den)|nilp|nilf|nils|nilm|fn(f:Fn)(fst caps:List V)|agg(cs:List V)|tup(vs:List V)|er(cs:List V)|ref(l off:Nat)|rref(l i off:Nat)|osl(l:Nat)|osp(l lo n:Nat)|map(l:Nat)|when(b:Bool)(v:V)|opt(b:Bool)(v:V)|pf(ts rs:List Ty)(pre:A8 ts→Prop)(f:A8 ts→A8 rs)|yl(l:Nat)|bsl(l n:Nat)
def DI:(t:Ty)→t.den→List V|.int k,x=>[.d (.int k) x]|.bool,x=>[.d .bool x]|.str,x=>[.d .str x]|.sl t,x=>[.d (.sl t) x]|.pair a b,x=>DI a x.1++DI b x.2|.unit,_=>[]
theorem LL:∀(t:Ty)(x:t.den),(DI t x).length=t.size|.int _,_|.bool,_|.str,_|.sl _,_|.unit,_=>rfl|.pair a b,x=>by simp only[DI,dW,LL a,LL b,Ty.size]
def Al(w:World)(S:Nat→Prop):(t:Ty)→t.den→List Value→Prop|.int k,n,cs=>cs=[.int k n]|.bool,b,cs=>cs=[.bool b]|.str,s,cs=>cs=[.string s]|.sl t,l,cs=>∃a c,cs=[.slice a (List.length (α:=t.den) l) c]∧(List.length (α:=t.den) l≤c∧c≤maxLen)∧(l≠([]:List t.den)→∃b off,a=some ⟨b,off,none⟩∧S b∧∀i(x:t.den),(l:List t.den)[i]?=some x→∃cs',Al w S t x cs'∧∀j u,cs'[j]?=some u→w.cell? ⟨b,off+i*t.size+j,none⟩=some u)|.pair a b,x,cs=>∃c1 c2,cs=c1++c2∧Al w S a x.1 c1∧Al w S b x.2 c2|.unit,_,cs=>cs=[]
theorem Al.length{w:World}{S:Nat→Prop}:∀{t:Ty}{x:t.den}{cs:List Value},Al w S t x cs→cs.length=t.size|.int _,_,_,h=>by rw[show _=_ from h];rfl|.bool,_,_,h=>by rw[show _=_ from h];rfl|.str,_,_,h=>by rw[show _=_ from h];rfl|.sl _,_,_,⟨_,_,h,_⟩=>by rw[h];rfl|.pair a b,_,_,⟨c1,c2,h,h1,h2⟩=>by rw[h,dW,h1.length,h2.length];rfl|.unit,_,_,h=>by rw[show _=_ from h];rfl
theorem Al.one{w:World}{S:Nat→Prop}:∀{t:Ty}{x:t.den}{cs:List Value},Al w S t x cs→∀u∈cs,u.oneCell'=true
 |.int _,_,_,h=>by rw[show _=_ from h];simp[Value.oneCell']|.bool,_,_,h=>by rw[show _=_ from h];simp[Value.oneCell']|.str,_,_,h=>by rw[show _=_ from h];simp[Value.oneCell']|.sl _,_,_,⟨_,_,h,_⟩=>by rw[h];simp[Value.oneCell']|.pair a b,_,_,⟨c1,c2,h,h1,h2⟩=>by
  rw[h];intro u hu;rcases List.mem_append.1 hu with hu|hu;·exact h1.one u hu
  ·exact h2.one u hu|.unit,_,_,h=>by rw[show _=_ from h];simp
theorem Kz{w w':World}{b:Nat}(h:w'.heap[b]?=w.heap[b]?)(o:Nat):w'.cell? ⟨b,o,none⟩=w.cell? ⟨b,o,none⟩:=by simp only[World.cell?,h]
theorem Al.mono{w w':World}{S S':Nat→Prop}(hS:∀b,S b→S' b∧w'.heap[b]?=w.heap[b]?):∀{t:Ty}{x:t.den}{cs:List Value},Al w S t x cs→Al w' S' t x cs|.int _,_,_,h=>h|.bool,_,_,h=>h|.str,_,_,h=>h|.sl t,l,_,⟨a,c,h,hc,hl⟩=>⟨a,c,h,hc,λAU=>by obtain⟨b,off,ha,hb,hx⟩:=hl AU;refine⟨b,off,ha,(hS b hb).1,λi x hi=>?_⟩;obtain⟨cs',h1,h2⟩:=hx i x hi;exact⟨cs',h1.mono hS,λj u hj=>(Kz (hS b hb).2 _).trans (h2 j u hj)⟩⟩|.pair _ _,_,_,⟨c1,c2,h,h1,h2⟩=>⟨c1,c2,h,h1.mono hS,h2.mono hS⟩|.unit,_,_,h=>h
structure AH where
 b:Nat
 a:Option Addr:=none
 len:Nat:=0
 cap:Nat:=0
 esz:Nat:=0
def AH.v(L:AH):Value:=.slice L.a L.len L.cap
structure AB where
 w:World
 S:Nat→Prop
 loc:Nat→Option AH
def AH.Part(L:AH)(lo n:Nat)(c:Value):Prop:=∃a,c=.slice a n (L.cap-lo)∧(L.cap≠lo→a=L.a.map (·.add (lo*L.esz)))
def Gy(w:World)(S:Nat→Prop)(t:Ty)(x:t.den)(v:Value):Prop:=match t,x with|.pair a b,x=>∃cs:Array Value,v=.agg cs∧Al w S (.pair a b) x cs.toList|t,x=>Al w S t x [v]
def Hx(w:World)(S:Nat→Prop):(ts:List Ty)→A8 ts→List Value→Prop|[],_,vs=>vs=[]|[t],x,vs=>∃v,vs=[v]∧Gy w S t x v|t::u::l,x,vs=>∃v r,vs=v::r∧Gy w S t x.1 v∧Hx w S (u::l) x.2 r
def Ml(w:World)(S:Nat→Prop)(rs:List Ty)(x:A8 rs)(v:Value):Prop:=match rs,x with|[],_=>v=.tuple #[]|[t],x=>Gy w S t x v|t::u::l,x=>∃vs:Array Value,v=.tuple vs∧Hx w S (t::u::l) x vs.toList
structure EN(w:World)(S:Nat→Prop)(w':World)(S':Nat→Prop):Prop where
 drawn:w.drawn≤w'.drawn
 os:w'.os=w.os
 tape:w'.tape=w.tape
 output:w'.output=w.output
 size:w.heap.size≤w'.heap.size
 frame:∀b,b<w.heap.size→w'.heap[b]?=w.heap[b]?
 up:∀b,S b→S' b
 st:∀b,S' b→S b∨w.heap.size≤b
 lt:∀b,S' b→b<w'.heap.size
def Bu(P:Program)(f:FuncId):Prop:=∃fn,P.funcs[f]?=some fn∧fn.body.isSome=true∧(fn.name== "runtime.NumGoroutine")=false
def H1(P:Program)(w:World)(S:Nat→Prop):Prop:=∃b,S b∧∀w':World,w'.heap[b]?=w.heap[b]?→Lib.TabIs P w' "internal/strconv.uint64pow10" .u64 Lib.pow10Tab
theorem H1.mono{P:Program}{w w':World}{S S':Nat→Prop}(h:H1 P w S)(hS:∀b,S b→S' b∧w'.heap[b]?=w.heap[b]?):H1 P w' S':=by obtain⟨b,h1,h2⟩:=h;exact⟨b,(hS b h1).1,λw1 h3=>h2 w1 (h3.trans (hS b h1).2)⟩
structure EO(P:Program)(w:World)(S:Nat→Prop):Prop where
 lt:∀b,S b→b<w.heap.size
 tab:H1 P w S
def Kl(P:Program)(w:World)(S:Nat→Prop)(ts rs:List Ty)(pre:A8 ts→Prop)(f:A8 ts→A8 rs)(c:Value):Prop:=∃(g:FuncId)(a b:Array Value),c=.func (.func g) a b∧Bu P g∧∀(w1:World)(S1:Nat→Prop),(∀k,S k→S1 k∧w1.heap[k]?=w.heap[k]?)→EO P w1 S1→∀xs,pre xs→∀cargs:Array Value,Hx w1 S1 ts xs cargs.toList→Calls P g (a++cargs++b) w1 λe w2=>∃v S2,e=.returned v∧EN w1 S1 w2 S2∧Ml w2 S2 rs (f xs) v
theorem Kl.mono{P:Program}{w w':World}{S S':Nat→Prop}{ts rs:List Ty}{pre:A8 ts→Prop}{f:A8 ts→A8 rs}{c:Value}(hS:∀b,S b→S' b∧w'.heap[b]?=w.heap[b]?)(h:Kl P w S ts rs pre f c):Kl P w' S' ts rs pre f c:=by obtain⟨g,a,b,h1,h2,h3⟩:=h;exact⟨g,a,b,h1,h2,λw1 S1 hs=>h3 w1 S1 λk hk=>⟨(hs k (hS k hk).1).1,(hs k (hS k hk).1).2.trans (hS k hk).2⟩⟩
inductive N(P:Program)(E:AB):V→Value→Prop where|any(v):N P E .any v|d{t x v}:Al E.w E.S t x [v]→N P E (.d t x) v|nilp:N P E .nilp (.pointer none)|nilf:N P E .nilf .nilFunc|nils(a):N P E .nils (.slice a 0 0)|nilm:N P E .nilm (.map none)|fn{f fs cs}{a b:Array Value}:a.size=fs.length→b.size=cs.length→(∀j,j<fs.length→N P E (fs.getD j .any) (a.getD j undef))→(∀j,j<cs.length→N P E (cs.getD j .any) (b.getD j undef))→N P E (.fn f fs cs) (.func f a b)|agg{cs}{a:Array Value}:a.size=cs.length→(∀j,j<cs.length→N P E (cs.getD j .any) (a.getD j undef))→N P E (.agg cs) (.agg a)|tup{cs}{a:Array Value}:a.size=cs.length→(∀j,j<cs.length→N P E (cs.getD j .any) (a.getD j undef))→N P E (.tup cs) (.tuple a)|er{cs b off}(c:Nat→Value):E.S b→(∀j,j<cs.length→E.w.cell? ⟨b,off+j,none⟩=some (c j))→(∀j,j<cs.length→N P E (cs.getD j .any) (c j))→N P E (.er cs) (.pointer (some ⟨b,off,none⟩))|ref{l off L}:E.loc l=some L→N P E (.ref l off) (.pointer (some ⟨L.b,off,none⟩))|rref{l i off L}:E.loc l=some L→N P E (.rref l i off) (.pointer (some ⟨L.b,i*L.esz+off,none⟩))|osl{l L}:E.loc l=some L→N P E (.osl l) L.v|osp{l lo n L c}:E.loc l=some L→L.Part lo n c→N P E (.osp l lo n) c|map{l L}:E.loc l=some L→N P E (.map l) (.map (some L.b))|when{b v x}:(b=true→N P E v x)→(b=false→x=undef)→N P E (.when b v) x|opt{b v x}:(b=true→N P E v x)→(b=false→x=.pointer none)→N P E (.opt b v) x|pf{ts rs pre f c}:Kl P E.w E.S ts rs pre f c→N P E (.pf ts rs pre f) c|yl{l L}:E.loc l=some L→N P E (.yl l) (.func (.yield L.b) #[] #[])|bsl{l n L}:E.loc l=some L→N P E (.bsl l n) (.slice (some ⟨L.b,0,none⟩) n n)
structure BE(E E':AB)(M:List Nat):Prop where
 S:∀b,E.S b→E'.S b∧E'.w.heap[b]?=E.w.heap[b]?
 loc:∀l L,l∉M→E.loc l=some L→E'.loc l=some L
theorem BE.refl(E:AB)(M:List Nat):BE E E M:=⟨λ_ h=>⟨h,rfl⟩,λ_ _ _ h=>h⟩
theorem BE.trans{A B C:AB}{M M':List Nat}(h:BE A B M)(k:BE B C M'):BE A C (M'++M):=⟨λb hb=>⟨(k.S b (h.S b hb).1).1,(k.S b (h.S b hb).1).2.trans (h.S b hb).2⟩,λl L hl hu=>by simp only[fC,fJ]at hl;exact k.loc l L hl.1 (h.loc l L hl.2 hu)⟩
theorem N.mono{P:Program}{E E':AB}(h:BE E E' []){v:V}{c:Value}(r:N P E v c):N P E' v c:=by have hl:∀{l L},E.loc l=some L→E'.loc l=some L:=λk=>h.loc _ _ (by simp) k;induction r with|any v=>exact .any v|d hc=>exact .d (hc.mono h.S)|nilp=>exact .nilp|nilf=>exact .nilf|nils a=>exact .nils a|nilm=>exact .nilm|fn h1 h2 _ _ i1 i2=>exact .fn h1 h2 i1 i2|agg h1 _ i1=>exact .agg h1 i1|tup h1 _ i1=>exact .tup h1 i1|er c hb hc _ i=>exact .er c (h.S _ hb).1 (λj hj=>(Kz (h.S _ hb).2 _).trans (hc j hj)) i|ref k=>exact .ref (hl k)|rref k=>exact .rref (hl k)|osl k=>exact .osl (hl k)|osp k kp=>exact .osp (hl k) kp|map k=>exact .map (hl k)|when _ h2 i1=>exact .when i1 h2|opt _ h2 i1=>exact .opt i1 h2|pf k=>exact .pf (k.mono h.S)|yl k=>exact .yl (hl k)|bsl k=>exact .bsl (hl k)
def V.isRef:V→Bool|.ref ..|.rref ..|.osl ..|.osp ..|.map ..|.yl _|.bsl ..=>true|_=>false
mutual
def V.subst(f:V→V):V→V|.fn g a b=>.fn g (Br f a) (Br f b)|.agg cs=>.agg (Br f cs)|.tup cs=>.tup (Br f cs)|.er cs=>.er (Br f cs)|.when b v=>.when b (V.subst f v)|.opt b v=>.opt b (V.subst f v)|.ref l o=>f (.ref l o)|.rref l i o=>f (.rref l i o)|.osl l=>f (.osl l)|.osp l lo n=>f (.osp l lo n)|.map l=>f (.map l)|.yl l=>f (.yl l)|.bsl l n=>f (.bsl l n)|v=>v
def Br(f:V→V):List V→List V|[]=>[]|v::l=>V.subst f v::Br f l
end
theorem Fc(f:V→V):∀l,Br f l=l.map (V.subst f)|[]=>rfl|v::l=>by simp only[Br,Fc f l,fK]
theorem F9{f:V→V}{l:List V}{j:Nat}(hj:j<l.length):(Br f l).getD j .any=(l.getD j .any).subst f:=by rw[Fc,dM,dM,fT,dY hj];rfl
theorem Ht{P:Program}{E E':AB}{f:V→V}(hS:∀b,E.S b→E'.S b∧E'.w.heap[b]?=E.w.heap[b]?)(hf:∀v c,v.isRef=true→N P E v c→N P E' (f v) c){v:V}{c:Value}(r:N P E v c):N P E' (v.subst f) c:=by
 have len:∀l:List V,(Br f l).length=l.length:=λl=>by rw[Fc,fB]
 induction r with|any v=>exact .any v|d hc=>exact .d (hc.mono hS)|nilp=>exact .nilp|nilf=>exact .nilf|nils a=>exact .nils a|nilm=>exact .nilm|fn h1 h2 h3 h4 i1 i2=>exact .fn (by rw[len];exact h1) (by rw[len];exact h2) (λj hj=>by rw[len]at hj;rw[F9 hj];exact i1 j hj) λj hj=>by rw[len]at hj;rw[F9 hj];exact i2 j hj|agg h1 h2 i1=>exact .agg (by rw[len];exact h1) λj hj=>by rw[len]at hj;rw[F9 hj];exact i1 j hj|tup h1 h2 i1=>exact .tup (by rw[len];exact h1) λj hj=>by rw[len]at hj;rw[F9 hj];exact i1 j hj|er c hb hc h3 i=>exact .er c (hS _ hb).1 (λj hj=>by rw[len]at hj;exact(Kz (hS _ hb).2 _).trans (hc j hj)) λj hj=>by rw[len]at hj;rw[F9 hj];exact i j hj|ref k=>exact hf _ _ rfl (.ref k)|rref k=>exact hf _ _ rfl (.rref k)|osl k=>exact hf _ _ rfl (.osl k)|osp k kp=>exact hf _ _ rfl (.osp k kp)|map k=>exact hf _ _ rfl (.map k)|when h1 h2 i1=>exact .when i1 h2|opt h1 h2 i1=>exact .opt i1 h2|pf k=>exact .pf (k.mono hS)|yl k=>exact hf _ _ rfl (.yl k)|bsl k=>exact hf _ _ rfl (.bsl k)
inductive RJ where|no|ret|exit(id:Nat)
def RJ.code:RJ→Option Code|.no=>none|.ret=>some .ret|.exit id=>some (.exit id)
inductive Obj where|dead|box(cs:List V)|row(t:Ty)(l:List t.den)|vrow(t:Ty)(l:List (List t.den))(s:List V)(m:Nat)|smap(t:Ty)(m:ByteArray→Option t.den)|imap(t:Ty)(m:Int→Option t.den)|lrec(nt:Nat)(tmps:List (Nat×V))(params:List Nat)(assign body:Code)(st:LoopState)(j:RJ)|dfb
abbrev AA:=List (Nat×Obj)
def O(l:Nat):AA→Option Obj|[]=>none|(k,o)::r=>match Nat.beq k l with|true=>some o|false=>O l r
theorem Ad(k l:Nat)(o:Obj)(r:AA):O l ((k,o)::r)=if k=l then some o else O l r:=by
 simp only[O];split;·rename_i h;rw[dO (dJ h)]
 ·rename_i h;rw[dK (fS h)]
def Aa(w:World)(S:Nat→Prop)(t:Ty):List t.den→List Value→Prop|[],cs=>cs=[]|x::l,cs=>∃c1 c2,cs=c1++c2∧Al w S t x c1∧Aa w S t l c2
theorem Aa.mono{w w':World}{S S':Nat→Prop}{t:Ty}(hS:∀b,S b→S' b∧w'.heap[b]?=w.heap[b]?):∀{l:List t.den}{cs:List Value},Aa w S t l cs→Aa w' S' t l cs|[],_,h=>h|_::_,_,⟨c1,c2,h,h1,h2⟩=>⟨c1,c2,h,h1.mono hS,h2.mono hS⟩
theorem Aa.length{w:World}{S:Nat→Prop}{t:Ty}:∀{l:List t.den}{cs:List Value},Aa w S t l cs→cs.length=l.length*t.size|[],_,h=>by rw[show _=_ from h];simp|_::l,_,⟨c1,c2,h,h1,h2⟩=>by rw[h,dW,h1.length,h2.length,dX,fL];omega
theorem Aa.append{w:World}{S:Nat→Prop}{t:Ty}:∀{l l':List t.den}{cs cs':List Value},Aa w S t l cs→Aa w S t l' cs'→Aa w S t (l++l') (cs++cs')|[],_,_,_,h,h'=>by rw[show _=_ from h];simpa using h'|_::_,_,_,_,⟨c1,c2,h,h1,h2⟩,h'=>⟨c1,c2++_,by rw[h,gA],h1,h2.append h'⟩
theorem Aa.one{w:World}{S:Nat→Prop}{t:Ty}:∀{l:List t.den}{cs:List Value},Aa w S t l cs→∀u∈cs,u.oneCell'=true
 |[],_,h=>by rw[show _=_ from h];simp|_::_,_,⟨c1,c2,h,h1,h2⟩=>by
  rw[h];intro u hu;rcases List.mem_append.1 hu with hu|hu;·exact h1.one u hu
  ·exact h2.one u hu
theorem Aa.get{w:World}{S:Nat→Prop}{t:Ty}:∀{l:List t.den}{cs:List Value},Aa w S t l cs→∀(i:Nat)(x:t.den),l[i]?=some x→∃c,Al w S t x c∧∀j u,c[j]?=some u→cs[i*t.size+j]?=some u|[],_,_,i,x,h=>by simp at h|y::l,cs,⟨c1,c2,h,h1,h2⟩,0,x,hx=>by simp at hx;subst hx;refine⟨c1,h1,λj u hj=>?_⟩;rw[h,jL,fE,fI (by have :=(List.getElem?_eq_some_iff.1 hj).1;exact this)];exact hj|y::l,cs,⟨c1,c2,h,h1,h2⟩,i+1,x,hx=>by obtain⟨c,hc,hj⟩:=h2.get i x (by simpa using hx);refine⟨c,hc,λj u hu=>?_⟩;have SQ:=h1.length;rw[h,fH (by rw[SQ,fL];omega)];rw[show(i+1)*t.size+j-c1.length=i*t.size+j from by rw[SQ,fL];omega];exact hj j u hu
theorem Aa.of_get{w:World}{S:Nat→Prop}{t:Ty}:∀{l:List t.den}{cs:List Value},cs.length=l.length*t.size→(∀(i:Nat)(x:t.den),l[i]?=some x→∃c,Al w S t x c∧∀j u,c[j]?=some u→cs[i*t.size+j]?=some u)→Aa w S t l cs
 |[],cs,h,_=>dZ (by simpa using h)|x::l,cs,h,hg=>by
  obtain⟨c,hc,hj⟩:=hg 0 x rfl;have hcl:=hc.length;have hle:t.size≤cs.length:=by rw[h,dX,fL];omega
  have e:cs.take t.size=c:=by
   apply fP;intro j;rw[eE];split;·rename_i AM;have :=hj j c[j] (dY (by omega));rw[dY (by omega:j<c.length)];simpa using this
   ·rw[fM (by omega)]
  refine⟨c,cs.drop t.size,by rw[←e,gD],hc,Aa.of_get (by rw[fG,h,dX,fL];omega) λi y hy=>?_⟩;obtain⟨c',hc',hj'⟩:=hg (i+1) y (by simpa using hy);refine⟨c',hc',λj u hu=>?_⟩;rw[gM,show t.size+(i*t.size+j)=(i+1)*t.size+j from by rw[fL];omega];exact hj' j u hu
theorem EM{α:Type}{A vs:List α}{o:Nat}(h:o+vs.length≤A.length)(k:Nat):(A.take o++vs++A.drop (o+vs.length))[k]?=if k<o then A[k]? else if k<o+vs.length then vs[k-o]? else A[k]?:=by
 have Yn:(A.take o).length=o:=by simp;omega
 split;·rw[gA,fI (by omega),eE,dO ‹_›]
 ·split;·rw[fI (by simp;omega),fH (by omega),Yn]
  ·rw[fH (by simp;omega),gM];congr 1;simp;omega
def F0{κ:Type}(f:κ→Value)(w:World)(S:Nat→Prop)(t:Ty)(m:κ→Option t.den)(es:Array MapEntry):Prop:=(∀e∈es.toList,∃k x,e.key=f k∧m k=some x∧Al w S t x [e.val])∧(∀k x,m k=some x→∃e∈es.toList,e.key=f k)∧(es.toList.map λe=>e.key).Nodup
abbrev aM(w:World)(S:Nat→Prop)(t:Ty)(m:ByteArray→Option t.den)(es:Array MapEntry):Prop:=F0 Value.string w S t m es
abbrev Y4(w:World)(S:Nat→Prop)(t:Ty)(m:Int→Option t.den)(es:Array MapEntry):Prop:=F0 (Value.int .i64) w S t m es
theorem F0.mono{κ:Type}{f:κ→Value}{w w':World}{S S':Nat→Prop}{t:Ty}{m:κ→Option t.den}{es:Array MapEntry}(h:F0 f w S t m es)(hS:∀b,S b→S' b∧w'.heap[b]?=w.heap[b]?):F0 f w' S' t m es:=⟨λe he=>let⟨k,x,h1,h2,h3⟩:=h.1 e he;⟨k,x,h1,h2,h3.mono hS⟩,h.2⟩
def AF(t:Nat):List (Nat×V)→V|[]=>.any|(u,v)::r=>match Nat.beq u t with|true=>v|false=>AF t r
theorem BU(u t:Nat)(v:V)(l:List (Nat×V)):AF t ((u,v)::l)=if u=t then v else AF t l:=by
 simp only[AF];split;·rename_i h;rw[dO (dJ h)]
 ·rename_i h;rw[dK (fS h)]
def AY(P:Program)(E:AB)(L:AH):Obj→Prop|.dead=>True|.box cs=>∃vals t,E.w.heap[L.b]?=some (.cells vals t (0,0))∧vals.size=cs.length∧∀j,j<cs.length→N P E (cs.getD j .any) (vals.getD j undef)|.row t xs=>L.esz=t.size∧0<t.size∧L.len=xs.length∧∃e cs,Aa E.w E.S t xs cs∧( L.cap=0∧xs=[]∨∃cur,L.a=some ⟨L.b,0,none⟩∧E.w.heap[L.b]?=some (.cells cur e (0,0))∧xs.length≤L.cap∧0<L.cap∧L.cap≤maxLen∧cur.size=L.cap*t.size∧cur.toList.take (xs.length*t.size)=cs)|.vrow t xs s m=>L.esz=1∧s.length≤1∧L.len=xs.length+s.length+m∧∃e cs,Aa E.w E.S (.sl t) xs cs∧( L.cap=0∧L.len=0∨∃cur,L.a=some ⟨L.b,0,none⟩∧E.w.heap[L.b]?=some (.cells cur e (0,0))∧L.len≤L.cap∧0<L.cap∧L.cap≤maxLen∧cur.size=L.cap∧cur.toList.take xs.length=cs∧(∀j,j<s.length→N P E (s.getD j .any) (cur.getD (xs.length+j) undef))∧∀i,xs.length+s.length≤i→i<L.len→cur[i]?=some (.slice none 0 0))|.smap t m=>∃es clock,E.w.heap[L.b]?=some (.map es clock)∧aM E.w E.S t m es|.imap t m=>∃es clock,E.w.heap[L.b]?=some (.map es clock)∧Y4 E.w E.S t m es|.lrec nt tmps params assign body st j=>∃r:Loop,E.w.heap[L.b]?=some (.loop r)∧r.tmps.size=nt∧(∀t,N P E (AF t tmps) (r.tmps.getD t undef))∧r.params.toList=params∧r.assign=assign∧r.body=body∧r.state=st∧r.pending=j.code|.dfb=>E.w.heap[L.b]?=some (.deferred (some []))
def Obj.has(o:Obj)(L:AH):Prop:=match o with|.dead=>False|.row ..|.vrow ..=>L.cap≠0|_=>True
def Bi(E:AB)(objs:AA)(b:Nat):Prop:=∃l o L,O l objs=some o∧E.loc l=some L∧o.has L∧L.b=b
structure U(P:Program)(E:AB)(objs:AA):Prop where
 at_:∀l o,O l objs=some o→∃L,E.loc l=some L∧AY P E L o
 ns:∀b,Bi E objs b→¬E.S b
 sl:∀b,E.S b→b<E.w.heap.size
 tab:H1 P E.w E.S
 inj:∀l l' o o' L L',O l objs=some o→O l' objs=some o'→E.loc l=some L→E.loc l'=some L'→o.has L→o'.has L'→L.b=L'.b→l=l'
structure Ak(E0:AB)(imp:AA)(E:AB)(objs:AA)(M:List Nat):Prop where
 ext:BE E0 E M
 os:E.w.os=E0.w.os
 tape:E.w.tape=E0.w.tape
 output:E.w.output=E0.w.output
 size:E0.w.heap.size≤E.w.heap.size
 frame:∀b,b<E0.w.heap.size→¬Bi E0 imp b→E.w.heap[b]?=E0.w.heap[b]?
 own:∀b,Bi E objs b→E0.w.heap.size≤b∨Bi E0 imp b
 st:∀b,E.S b→E0.S b∨E0.w.heap.size≤b∨Bi E0 imp b
 keys:∀l,O l objs=none→O l imp=none
 dom:∀l,O l objs=none→E.loc l=E0.loc l
theorem Ak.refl(E:AB)(objs:AA)(M:List Nat):Ak E objs E objs M:=⟨.refl _ _,rfl,rfl,rfl,dT _,λ_ _ _=>rfl,λ_ h=>.inr h,λ_ h=>.inl h,λ_ h=>h,λ_ _=>rfl⟩
theorem Ak.trans{E0 E1 E2:AB}{o0 o1 o2:AA}{M M':List Nat}(h:Ak E0 o0 E1 o1 M)(k:Ak E1 o1 E2 o2 M'):Ak E0 o0 E2 o2 (M'++M):=⟨h.ext.trans k.ext,k.os.trans h.os,k.tape.trans h.tape,k.output.trans h.output,eO h.size k.size,λb hb hn=>(k.frame b (gF hb h.size) λho=>(h.own b ho).elim λh'=>by omega hn).trans (h.frame b hb hn),λb hb=>(k.own b hb).elim (λh'=>.inl (eO h.size h')) (h.own b),λb hb=>(k.st b hb).elim (h.st b) λh'=>h'.elim (λh'=>.inr (.inl (eO h.size h'))) λh'=>.inr (h.own b h'),λl hl=>h.keys l (k.keys l hl),λl hl=>(k.dom l hl).trans (h.dom l (k.keys l hl))⟩
theorem AY.block_lt{P:Program}{E:AB}{L:AH}{o:Obj}(h:AY P E L o)(hh:o.has L):L.b<E.w.heap.size:=by cases o with
 |dead=>exact hh.elim|box cs=>obtain⟨vals,t,hb,_⟩:=h;exact(Array.getElem?_eq_some_iff.1 hb).1|row t xs=>
  obtain⟨_,_,_,e,cs,_,h|⟨cur,_,hb,_⟩⟩:=h;·exact absurd h.1 hh
  ·exact(Array.getElem?_eq_some_iff.1 hb).1|vrow t xs s m=>
  obtain⟨_,_,_,e,cs,_,h|⟨cur,_,hb,_⟩⟩:=h;·exact absurd h.1 hh
  ·exact(Array.getElem?_eq_some_iff.1 hb).1|smap t m=>obtain⟨es,c,hb,_⟩:=h;exact(Array.getElem?_eq_some_iff.1 hb).1|imap t m=>obtain⟨es,c,hb,_⟩:=h;exact(Array.getElem?_eq_some_iff.1 hb).1|lrec=>obtain⟨r,hb,_⟩:=h;exact(Array.getElem?_eq_some_iff.1 hb).1|dfb=>exact(Array.getElem?_eq_some_iff.1 h).1
theorem U.sok{P:Program}{E:AB}{objs:AA}(g:U P E objs):EO P E.w E.S:=⟨g.sl,g.tab⟩
theorem U.own_lt{P:Program}{E:AB}{objs:AA}(h:U P E objs){b:Nat}(hb:Bi E objs b):b<E.w.heap.size:=by obtain⟨l,o,L,ho,hL,hh,rfl⟩:=hb;obtain⟨L',hL',ha⟩:=h.at_ l o ho;rw[hL]at hL';cases hL';exact ha.block_lt hh
inductive TK where|int(k:IntKind)|bool|str|sl(e:TypeId)|arr(n:Nat)(e:TypeId)|st(offs:List (Nat×Nat))|ptr|map(k e:TypeId)|fn|other
structure TI where
 k:TK
 size:Nat
 bytes:Nat
 zero:List Value
 code:Option Ty
def TK.known:TK→Bool|.other=>false|_=>true
def TI.isAgg(i:TI):Bool:=match i.k with|.arr ..|.st _=>true|_=>false
structure TI.Ok(P:Program)(t:TypeId)(i:TI):Prop where
 info:∃info z,P.info? t=some info∧info.size=i.size∧info.bytes=i.bytes∧info.zero=some z∧z.cells.toList=i.zero∧z.cells.size=i.size
 kind:match i.k with|.int k=>P.underlying t=some (.int k)|.bool=>P.underlying t=some .bool|.str=>P.underlying t=some .string|.sl e=>P.underlying t=some (.slice e)|.arr n e=>P.underlying t=some (.array n e)∧∃ie ze,P.info? e=some ie∧ie.zero=some ze∧i.zero=(List.replicate n ze.cells.toList).flatten∧i.size=n*ie.size∧0<n∧n≤9223372036854775807∧0<ie.size|.st offs=>∃fs,P.underlying t=some (.struct fs)∧fs.toList.map (λf=>(f.offset,P.cellsOf f.type))=offs∧∀p∈offs,p.2≠0|.ptr=>∃e,P.underlying t=some (.pointer e)|.map k e=>P.underlying t=some (.map k e)∧∃ie ze,P.info? e=some ie∧ie.zero=some ze∧ze.oneCell'=true|.fn=>∃ps rs v,P.underlying t=some (.func ps rs v)|.other=>True
 code:∀T,i.code=some T→T.size=i.size∧0<i.size∧∀w S,Al w S T T.dflt i.zero
abbrev AK:=TypeId→Option TI
def Ah(P:Program)(τ:AK):Prop:=∀t i,τ t=some i→i.Ok P t
def Mb:Value→V
 |.int k n=>.d (.int k) n|.bool b=>.d .bool b|.string s=>.d .str s|.slice none 0 0=>.nils|.pointer none=>.nilp|.nilFunc=>.nilf|.map none=>.nilm|.tuple vs=>match vs.toList with|[]=>.tup []|_=>.any
 |_=>.any
def AL(tmps:List (Nat×V)):Operand→V|.tmp t=>AF t tmps|.const c=>Mb c|.func f=>.fn (.func f) [] []|.global _=>.any
def V.solid:V→Bool|.any|.when ..|.tup _|.agg _=>false|.opt _ v=>v.solid|_=>true
def Ko:List V→Bool|[]=>true|v::l=>match v.solid with|true=>Ko l|false=>false
def V.scells:V→Option (List V)
 |.agg cs=>match Ko cs with|true=>some cs|false=>none
 |v=>match v.solid with|true=>some [v]|false=>none
def I7(T:Ty):V→Option (List T.den)|.d (.sl t) l=>if h:t=T then some (h▸l)else none|.nils=>some []|_=>none
def Lr:IntKind→IntKind→Bool|.i8,.i8=>true|.i16,.i16=>true|.i32,.i32=>true|.i64,.i64=>true|.u8,.u8=>true|.u16,.u16=>true|.u32,.u32=>true|.u64,.u64=>true|_,_=>false
def PW(k:IntKind):List V→Option Int
 |[.d (.int k') n]=>match Lr k' k with|true=>some n|false=>none
 |_=>none
def PV:List V→Option Bool|[.d .bool b]=>some b|_=>none
def PX:List V→Option ByteArray|[.d .str s]=>some s|_=>none
def UW(t:Ty):List V→Option (List t.den)|[v]=>I7 t v|_=>none
def UX:List V→Option Unit|[]=>some ()|_=>none
def Cv:(T:Ty)→List V→Option T.den
 |.int k,cs=>PW k cs|.bool,cs=>PV cs|.str,cs=>PX cs|.sl t,cs=>UW t cs|.pair a b,cs=>match Cv a (cs.take a.size)with
  |some x=>match Cv b (cs.drop a.size)with|some y=>some (x,y)|none=>none
  |none=>none
 |.unit,cs=>UX cs
def Ae:Option Prop→Prop|none=>True|some p=>p
structure AT where
 ob:Option Prop
 v:V
 ed:Option (Nat×Obj×Bool)
def V.key:V→Option Nat|.ref l _|.rref l _ _|.osl l|.osp l _ _|.map l|.yl l|.bsl l _=>some l|_=>none
def Bh(l:Nat)(v:V):V:=match v.key with
 |some k=>match Nat.beq k l with|true=>.any|false=>v
 |none=>v
def Obj.subst(f:V→V):Obj→Obj|.box cs=>.box (Br f cs)|.vrow t xs s m=>.vrow t xs (Br f s) m|.lrec nt tmps ps a b st j=>.lrec nt (tmps.map λp=>(p.1,p.2.subst f)) ps a b st j|o=>o
def substO(f:V→V):AA→AA|[]=>[]|(k,o)::r=>(k,o.subst f)::substO f r
def edit(objs:AA):Option (Nat×Obj×Bool)→AA|none=>objs|some (l,o,false)=>(l,o)::objs|some (l,o,true)=>(l,o)::substO (Bh l) objs
def moved:Option (Nat×Obj×Bool)→List Nat|some (l,_,true)=>[l]|_=>[]
def Gm(agg:Bool)(cs:List V):Option V:=match agg with|true=>some (.agg cs)|false=>match cs with|[v]=>some v|_=>none
def GC:Nat→List V→Option (List V)
 |0,_=>some []|n+1,v::l=>match GC n l with|some r=>some (v::r)|none=>none
 |_+1,[]=>none
def Ei:Nat→List V→List V|0,l=>l|n+1,_::l=>Ei n l|_+1,[]=>[]
def putCells(cs:List V)(off:Nat)(new:List V):Option (List V):=match Nat.ble (off+new.length) cs.length with|true=>some (cs.take off++(new++Ei (off+new.length) cs))|false=>none
def NW(τ:AK)(os:AA)(t:TypeId)(v:V):Option AT:=match τ t with|none=>none|some ti=>match ti.k.known with|false=>none|true=>match v with
 |.ref l off=>match O l os with
  |some (.box cs)=>match GC ti.size (Ei off cs)with
   |some ds=>match Gm ti.isAgg ds with|some v=>some ⟨none,v,none⟩|none=>none
   |none=>none
  |_=>none
 |.er cs=>match GC ti.size cs with
  |some ds=>match Gm ti.isAgg ds with|some v=>some ⟨none,v,none⟩|none=>none
  |none=>none
 |.rref l i off=>match O l os with
  |some (.row T xs)=>match GC ti.size (Ei off (DI T (xs.getD i T.dflt)))with
   |some ds=>match Gm ti.isAgg ds with|some v=>some ⟨some (i<xs.length),v,none⟩|none=>none
   |none=>none
  |some (.vrow _ xs s _)=>match s with
   |[v]=>match Nat.beq off 0&&Nat.beq ti.size 1 with
    |true=>match Gm ti.isAgg [v]with|some v=>some ⟨some (i=xs.length),v,none⟩|none=>none
    |false=>none
   |_=>none
  |_=>none
 |_=>none
def Iy(T:Ty):Nat→List V→Option (List T.den)|0,[]=>some []|0,_=>none|n+1,cs=>match Cv T (cs.take T.size)with
 |some x=>match Iy T n (cs.drop T.size)with
  |some l=>match Nat.beq (cs.take T.size).length T.size with|true=>some (x::l)|false=>none
  |none=>none
 |none=>none
def Nf(τ:AK)(os:AA)(t:TypeId)(a x:V):Option AT:=match τ t with|none=>none|some ti=>match x.scells with|none=>none|some new=>match Nat.beq new.length ti.size with|false=>none|true=>match a with
 |.ref l off=>match O l os with
  |some (.box cs)=>match putCells cs off new with|some cs'=>some ⟨none,.tup [],some (l,.box cs',false)⟩|none=>none
  |_=>none
 |.rref l i off=>match O l os with
  |some (.row T xs)=>match ti.k with
   |.arr n _=>match Nat.beq i 0&&Nat.beq off 0 with
    |true=>match Iy T n new with|some ys=>some ⟨some (n=xs.length),.tup [],some (l,.row T ys,false)⟩|none=>none
    |false=>none
   |_=>match putCells (DI T (xs.getD i T.dflt)) off new with
    |some cs=>match Cv T cs with|some y=>some ⟨some (i<xs.length),.tup [],some (l,.row T (xs.set i y),false)⟩|none=>none
    |none=>none
  |some (.vrow T xs s m)=>match s with
   |[_]=>match new with
    |[v]=>match Nat.beq off 0 with|true=>some ⟨some (i=xs.length),.tup [],some (l,.vrow T xs [v] m,false)⟩|false=>none
    |_=>none
   |_=>none
  |_=>none
 |_=>none
def NS(τ:AK)(os:AA)(s:TypeId)(v:V)(f:Nat):Option AT:=match τ s with
 |some ⟨.st offs,_,_,_,_⟩=>match offs[f]? with
  |some (o,_)=>match v with|.ref l off=>some ⟨none,.ref l (off+o),none⟩|.er cs=>some ⟨none,.er (Ei o cs),none⟩|.rref l i off=>some ⟨none,.rref l i (off+o),none⟩|_=>none
  |none=>none
 |_=>none
def NT(τ:AK)(os:AA)(t:TypeId)(x ix:V):Option AT:=match τ t with
 |some ⟨.sl e,_,_,_,_⟩=>match ix with
  |.d (.int _) i=>match τ e with
   |some ei=>match x with
    |.d (.sl T) l=>match Nat.beq T.size ei.size with|true=>some ⟨some (0≤i∧i<(List.length (α:=T.den) l:Int)),.er (DI T (List.getD (α:=T.den) l i.toNat T.dflt)),none⟩|false=>none
    |.osl l=>match O l os with
     |some (.row T xs)=>match Nat.beq T.size ei.size with|true=>some ⟨some (0≤i∧i<(xs.length:Int)),.rref l i.toNat 0,none⟩|false=>none
     |some (.vrow _ xs s m)=>match Nat.beq ei.size 1 with
      |true=>match s with|[]=>none|_::_=>some ⟨some (0≤i∧i<((xs.length+1+m:Nat):Int)),.rref l i.toNat 0,none⟩
      |false=>none
     |_=>none
    |.osp l lo n=>match O l os with
     |some (.row T xs)=>match Nat.beq T.size ei.size with|true=>some ⟨some (0≤i∧i<(n:Int)∧lo+n≤xs.length),.rref l (lo+i.toNat) 0,none⟩|false=>none
     |_=>none
    |.bsl l n=>match i with
     |.ofNat i=>match Nat.blt i n&&Nat.beq ei.size 1 with|true=>some ⟨none,.ref l i,none⟩|false=>none
     |_=>none
    |.nils=>match ei.code with|some T=>some ⟨some False,.er (DI T T.dflt),none⟩|none=>none
    |_=>none
   |none=>none
  |_=>none
 |some ⟨.arr n e,_,_,_,_⟩=>match ix with
  |.d (.int _) i=>match τ e with
   |some ei=>match x with
    |.rref l 0 0=>match O l os with
     |some (.row T xs)=>match Nat.beq T.size ei.size with|true=>some ⟨some (0≤i∧i<(n:Int)),.rref l i.toNat 0,none⟩|false=>none
     |_=>none
    |_=>none
   |none=>none
  |_=>none
 |_=>none
def AD:IntKind→Int→Prop|.i8,n=>-128≤n∧n≤127|.i16,n=>-32768≤n∧n≤32767|.i32,n=>-2147483648≤n∧n≤2147483647|.i64,n=>-9223372036854775808≤n∧n≤9223372036854775807|.u8,n=>0≤n∧n≤255|.u16,n=>0≤n∧n≤65535|.u32,n=>0≤n∧n≤4294967295|.u64,n=>0≤n∧n≤18446744073709551615
def wr(k:IntKind)(n:Int):AT:=match k.signed with|true=>⟨some (AD k n),.d (.int k) n,none⟩|false=>⟨none,.d (.int k) (k.wrap n),none⟩
def I1(k:IntKind)(p:Prop)(n:Int):AT:=match k.signed with|true=>⟨some (p∧AD k n),.d (.int k) n,none⟩|false=>⟨some p,.d (.int k) (k.wrap n),none⟩
def bY(τ:AK):Bool:=match τ 1 with|some _=>false|none=>true
def Kg(wm:Bool)(k:IntKind)(n:Int):AT:=match wm with|true=>⟨none,.d (.int k) (k.wrap n),none⟩|false=>wr k n
def NU(wm:Bool)(op:BinOp)(k:IntKind)(a b:Int):Option AT:=match op with|.add=>some (Kg wm k (a+b))|.sub=>some (wr k (a-b))|.mul=>some (wr k (a*b))|.quo=>some (I1 k (b≠0) (a.tdiv b))|.rem=>some ⟨some (b≠0),.d (.int k) (a.tmod b),none⟩|.eql=>some ⟨none,.d .bool (a==b),none⟩|.neq=>some ⟨none,.d .bool (a !=b),none⟩|.lss=>some ⟨none,.d .bool (decide (a<b)),none⟩|.leq=>some ⟨none,.d .bool (decide (a≤b)),none⟩|.gtr=>some ⟨none,.d .bool (decide (b<a)),none⟩|.geq=>some ⟨none,.d .bool (decide (b≤a)),none⟩|.and=>some ⟨none,.d (.int k) (k.wrap ((BitVec.ofInt k.bits a&&&BitVec.ofInt k.bits b).toNat:Int)),none⟩|.or=>some ⟨none,.d (.int k) (k.wrap ((BitVec.ofInt k.bits a|||BitVec.ofInt k.bits b).toNat:Int)),none⟩|_=>none
def JN(op:BinOp)(b:Bool):Option AT:=match op with|.eql=>some ⟨none,.d .bool b,none⟩|.neq=>some ⟨none,.d .bool !b,none⟩|_=>none
def NK(τ:AK)(op:BinOp)(xt:TypeId)(x y:V):Option AT:=match x with
 |.d (.int k) a=>match y with
  |.d (.int k') b=>match op with|.shl=>some ⟨some (0≤b),.d (.int k) (k.wrap (a*2^min b.toNat k.bits)),none⟩|.shr=>some ⟨some (0≤b),.d (.int k) (a.fdiv (2^min b.toNat k.bits)),none⟩|op=>match Lr k k' with|true=>NU (bY τ) op k a b|false=>none
  |_=>none
 |.d .bool a=>match y with
  |.d .bool b=>match τ xt with
   |some ⟨.bool,_,_,_,_⟩=>match op with|.eql=>some ⟨none,.d .bool (a==b),none⟩|.neq=>some ⟨none,.d .bool (a !=b),none⟩|_=>none
   |_=>none
  |_=>none
 |p=>match y with
  |.nilp=>match τ xt with
   |some ⟨.ptr,_,_,_,_⟩=>match p with|.nilp=>JN op true|.er _=>JN op false|.opt b (.er _)=>JN op !b|_=>none
   |_=>none
  |_=>none
def Ng(op:UnOp)(x:V):Option AT:=match op with
 |.neg=>match x with|.d (.int k) n=>some (wr k (-n))|_=>none
 |.not=>match x with|.d .bool b=>some ⟨none,.d .bool !b,none⟩|_=>none
 |_=>none
def Fa(s:ByteArray):List Int:=s.data.toList.map λb=>(b.toNat:Int)
def BM(l:List Int):ByteArray:=⟨(l.map λn=>UInt8.ofNat n.toNat).toArray⟩
def MU(T:Ty)(os:AA):V→Option (List T.den×Option Prop)
 |.osl l=>match O l os with|some (.row t xs)=>if h:t=T then some (h▸xs,none)else none|_=>none
 |.osp l lo n=>match O l os with|some (.row t xs)=>if h:t=T then some (((h▸xs:List T.den).drop lo).take n,some (lo+n≤xs.length))else none|_=>none
 |v=>match I7 T v with|some l=>some (l,none)|none=>none
def P5(T:Ty)(os:AA):V→Option (List T.den×Option Prop)
 |.d .str s=>match T with|.int .u8=>some (Fa s,none)|_=>none
 |v=>MU T os v
def NQ(τ:AK)(os:AA)(src dst:TypeId)(x:V):Option AT:=match τ src with
 |some ⟨.int _,_,_,_,_⟩=>match τ dst with
  |some ⟨.int k,_,_,_,_⟩=>match x with|.d (.int _) n=>some (wr k n)|_=>none
  |_=>none
 |some ⟨.sl e,_,_,_,_⟩=>match τ dst with
  |some ⟨.str,_,_,_,_⟩=>match τ e with
   |some ⟨.int .u8,_,_,_,_⟩=>match x with
    |.osl l=>match O l os with|some (.row (.int .u8) xs)=>some ⟨none,.d .str (BM xs),none⟩|_=>none
    |.nils=>some ⟨none,.d .str ByteArray.empty,none⟩|_=>none
   |_=>none
  |_=>none
 |_=>none
def Gw:List Value→List V|[]=>[]|v::l=>Mb v::Gw l
def NJ(τ:AK)(n:Nat)(t:TypeId):Option AT:=match τ t with
 |some ⟨.arr m e,_,_,zero,_⟩=>match τ e with|some ⟨_,_,_,_,some T⟩=>some ⟨none,.rref n 0 0,some (n,.row T (List.replicate m T.dflt),false)⟩|some ⟨_,_,_,_,none⟩=>some ⟨none,.ref n 0,some (n,.box (Gw zero),false)⟩|none=>none
 |some ⟨_,_,_,zero,_⟩=>some ⟨none,.ref n 0,some (n,.box (Gw zero),false)⟩|none=>none
def NL(n:Nat)(x:V):Option AT:=match x.scells with|some cs=>some ⟨none,.ref n 0,some (n,.box cs,false)⟩|none=>none
def IF(offs:List (Nat×Nat)):List V→List (Nat×V)→Option (List V)|cs,[]=>some cs|cs,(i,v)::r=>match offs[i]? with
 |some (o,n)=>match v.scells with
  |some new=>match Nat.beq new.length n with
   |true=>match putCells cs o new with|some cs'=>IF offs cs' r|none=>none
   |false=>none
  |none=>none
 |none=>none
def NM(τ:AK)(t:TypeId)(parts:List (Nat×V)):Option AT:=match τ t with
 |some ⟨.st offs,_,_,zero,_⟩=>match IF offs (Gw zero) parts with|some cs=>some ⟨none,.agg cs,none⟩|none=>none
 |some ⟨.arr n e,_,_,zero,_⟩=>match τ e with
  |some ei=>match IF ((List.range n).map λi=>(i*ei.size,ei.size)) (Gw zero) parts with|some cs=>some ⟨none,.agg cs,none⟩|none=>none
  |none=>none
 |_=>none
def JP(T:Ty):Nat→List (Nat×V)→Option (List T.den)|_,[]=>some []|n,(i,v)::r=>match Nat.beq i n with
 |true=>match v.scells with
  |some cs=>match Cv T cs with
   |some x=>match JP T (n+1) r with|some l=>some (x::l)|none=>none
   |none=>none
  |none=>none
 |false=>none
def cellsOf:Nat→List (Nat×V)→Option (List V)|_,[]=>some []|n,(i,v)::r=>match Nat.beq i n with
 |true=>match v.solid with
  |true=>match cellsOf (n+1) r with|some l=>some (v::l)|none=>none
  |false=>none
 |false=>none
def NN(τ:AK)(n:Nat)(t:TypeId)(len:Nat)(parts:List (Nat×V)):Option AT:=match τ t with
 |some ⟨.sl e,_,_,_,_⟩=>match τ e with
  |some ⟨_,size,_,_,some T⟩=>match Nat.beq len parts.length&&Nat.ble (len*size) 16777216 with
   |true=>match JP T 0 parts with|some xs=>some ⟨none,.osl n,some (n,.row T xs,false)⟩|none=>none
   |false=>none
  |some ⟨_,size,_,_,none⟩=>match Nat.beq len parts.length&&Nat.ble len 16777216&&Nat.beq size 1&&Nat.blt 0 len with
   |true=>match cellsOf 0 parts with|some cs=>some ⟨none,.bsl n len,some (n,.box cs,false)⟩|none=>none
   |false=>none
  |none=>none
 |_=>none
def VU(τ:AK)(zs:List Value)(T:Ty)(m:Nat):Obj:=match T with
 |.sl u=>match τ 2 with
  |none=>match zs with|[.slice none 0 0]=>.vrow u [] [] m|_=>.row (.sl u) (List.replicate m [])
  |some _=>.row (.sl u) (List.replicate m [])
 |T=>.row T (List.replicate m T.dflt)
def NZ(τ:AK)(n:Nat)(t:TypeId)(l c:V):Option AT:=match τ t with
 |some ⟨.sl e,_,_,_,_⟩=>match l with
  |.d (.int .i64) l=>match c with
   |.d (.int .i64) c=>match τ e with|some ⟨_,_,bytes,zs,some T⟩=>some ⟨some (0≤l∧l≤c∧c*bytes≤140737488355328∧c≤9223372036854775807),.osl n,some (n,VU τ zs T l.toNat,false)⟩|_=>none
   |_=>none
  |_=>none
 |_=>none
def P6(τ:AK)(t:TypeId):Bool:=match τ t with|some ⟨.sl _,_,_,_,_⟩|some ⟨.str,_,_,_,_⟩=>true|_=>false
def D7(p:Prop):Option Prop→Prop|none=>p|some q=>q∧p
def Y6(l:Nat):V→Bool|.osp k _ _=>Nat.beq k l|_=>false
def IA(τ:AK)(os:AA)(n:Nat)(ts tx:TypeId)(s x:V):Option AT:=match τ ts with
 |some ⟨.sl e,_,_,_,_⟩=>match τ e with
  |some ⟨_,_,bytes,_,some T⟩=>match P6 τ tx with
   |true=>match P5 T os x with
    |some (ys,p)=>match s with
     |.nils=>some ⟨some (D7 (ys.length*bytes≤140737488355328∧ys.length≤9223372036854775807) p),.osl n,some (n,.row T ys,false)⟩|.osl l=>match O l os with|some (.row t xs)=>if h:t=T then some ⟨some (D7 ((xs.length+ys.length)*bytes≤140737488355328∧xs.length+ys.length≤9223372036854775807) p),.osl l,some (l,.row T ((h▸xs:List T.den)++ys),true)⟩else none|_=>none
     |.osp l 0 k=>match O l os with|some (.row t xs)=>if h:t=T then match Y6 l x with|true=>some ⟨some (D7 (k+ys.length≤xs.length) p),.osp l 0 (k+ys.length),some (l,.row T ((h▸xs:List T.den).take k++ys++(h▸xs:List T.den).drop (k+ys.length)),false)⟩|false=>some ⟨some (k≤xs.length∧D7 ((k+ys.length)*bytes≤140737488355328∧k+ys.length≤9223372036854775807) p),.osl l,some (l,.row T ((h▸xs:List T.den).take k++ys),true)⟩else none|_=>none
     |_=>none
    |none=>none
   |false=>match τ tx with
    |some ⟨.int .i64,_,_,_,_⟩=>match x with
     |.d (.int .i64) m=>match s with
      |.nils=>some ⟨some (0≤m∧m*bytes≤140737488355328∧m≤9223372036854775807),.osl n,some (n,.row T (List.replicate m.toNat T.dflt),false)⟩|.osl l=>match O l os with|some (.row t xs)=>if h:t=T then some ⟨some (0≤m∧(xs.length+m.toNat)*bytes≤140737488355328∧xs.length+m.toNat≤9223372036854775807),.osl l,some (l,.row T ((h▸xs:List T.den)++List.replicate m.toNat T.dflt),true)⟩else none|_=>none
      |_=>none
     |_=>none
    |_=>none
  |_=>none
 |_=>none
def NV(τ:AK)(os:AA)(t:TypeId)(x:V):Option AT:=match τ t with
 |some ⟨.sl _,_,_,_,_⟩=>match x with
  |.d (.sl T) l=>some ⟨none,.d (.int .i64) (List.length (α:=T.den) l:Int),none⟩|.nils=>some ⟨none,.d (.int .i64) (0:Int),none⟩|.osl l=>match O l os with|some (.row _ xs)=>some ⟨none,.d (.int .i64) (xs.length:Int),none⟩|_=>none
  |.osp _ _ n=>some ⟨none,.d (.int .i64) (n:Int),none⟩|.bsl _ n=>some ⟨none,.d (.int .i64) (n:Int),none⟩|_=>none
 |some ⟨.str,_,_,_,_⟩=>match x with|.d .str s=>some ⟨none,.d (.int .i64) (s.size:Int),none⟩|_=>none
 |some ⟨.arr n _,_,_,_,_⟩=>some ⟨none,.d (.int .i64) (n:Int),none⟩|_=>none
def JF{α:Type}(xs ys:List α)(lo n:Nat):List α:=xs.take lo++ys.take (min ys.length n)++xs.drop (lo+min ys.length n)
def NR(τ:AK)(os:AA)(td tx:TypeId)(d x:V):Option AT:=match τ td with
 |some ⟨.sl e,_,_,_,_⟩=>match τ tx with
  |some ⟨.sl _,_,_,_,_⟩=>match τ e with
   |some ⟨_,_,_,_,some T⟩=>match MU T os x with
    |some (ys,p)=>match d with
     |.osl l=>match O l os with|some (.row t xs)=>if h:t=T then some ⟨p,.d (.int .i64) (min ys.length xs.length:Nat),some (l,.row T (JF (h▸xs:List T.den) ys 0 xs.length),false)⟩else none|_=>none
     |.osp l lo n=>match O l os with|some (.row t xs)=>if h:t=T then some ⟨some (D7 (lo+n≤xs.length) p),.d (.int .i64) (min ys.length n:Nat),some (l,.row T (JF (h▸xs:List T.den) ys lo n),false)⟩else none|_=>none
     |_=>none
    |none=>none
   |_=>none
  |_=>none
 |_=>none
def JO(mk:Nat→Nat→V)(base n:Nat)(lo hi:Option V):Option AT:=match lo with
 |none=>match hi with|none=>some ⟨none,mk base n,none⟩|some h=>match h with|.d (.int _) h=>some ⟨some (0≤h∧h≤(n:Int)),mk base h.toNat,none⟩|_=>none
 |some a=>match a with
  |.d (.int _) a=>match hi with|none=>some ⟨some (0≤a∧a≤(n:Int)),mk (base+a.toNat) (n-a.toNat),none⟩|some h=>match h with|.d (.int _) h=>some ⟨some (0≤a∧a≤h∧h≤(n:Int)),mk (base+a.toNat) (h.toNat-a.toNat),none⟩|_=>none
  |_=>none
def VT(lo hi mx:Option V):Bool:=match lo with
 |none=>match hi with
  |some (.d (.int _) (.ofNat 0))=>match mx with|some (.d (.int _) (.ofNat 0))=>true|_=>false
  |_=>false
 |_=>false
def KH(mx:Option V)(n:Nat):Option (Option Prop):=match mx with|none=>some none|some (.d (.int _) m)=>some (some (m=(n:Int)))|_=>none
def UU(n m:Nat):Option V→Nat|none=>n|some _=>m
def Nd(τ:AK)(os:AA)(t:TypeId)(x:V)(lo hi mx:Option V):Option AT:=match τ t with
 |some ⟨.sl e,_,_,_,_⟩=>match τ e with
  |some ei=>match x with
   |.d (.sl T) l=>match Nat.beq T.size ei.size&&Nat.blt 0 T.size with
    |true=>match mx with
     |none=>match lo with
      |none=>match hi with|none=>some ⟨none,.d (.sl T) l,none⟩|some h=>match h with|.d (.int _) h=>some ⟨some (0≤h∧h≤(List.length (α:=T.den) l:Int)),.d (.sl T) (List.take (α:=T.den) h.toNat l),none⟩|_=>none
      |some a=>match a with
       |.d (.int _) a=>match hi with|none=>some ⟨some (0≤a∧a≤(List.length (α:=T.den) l:Int)),.d (.sl T) (List.drop (α:=T.den) a.toNat l),none⟩|some h=>match h with|.d (.int _) h=>some ⟨some (0≤a∧a≤h∧h≤(List.length (α:=T.den) l:Int)),.d (.sl T) ((List.take (α:=T.den) h.toNat l).drop a.toNat),none⟩|_=>none
       |_=>none
     |some _=>match VT lo hi mx with|true=>some ⟨none,.nils,none⟩|false=>none
    |false=>none
   |.osl l=>match O l os with
    |some (.row T xs)=>match Nat.beq T.size ei.size with
     |true=>match KH mx xs.length with
      |some m=>match JO (.osp l) 0 xs.length lo hi with
       |some ⟨ob,v,ed⟩=>match m with|none=>some ⟨ob,v,ed⟩|some m=>match hi with|some _=>some ⟨some (D7 m ob),.any,none⟩|none=>none
       |none=>none
      |none=>none
     |false=>none
    |_=>none
   |.osp l base n=>match O l os with
    |some (.row T xs)=>match Nat.beq T.size ei.size with
     |true=>match mx with
      |none=>match JO (.osp l) base (UU n (xs.length-base) hi) lo hi with|some ⟨ob,v,ed⟩=>some ⟨some (D7 (base+n≤xs.length) ob),v,ed⟩|none=>none
      |some _=>none
     |false=>none
    |_=>none
   |.nils=>match mx with
    |none=>match JO (λ_ _=>.nils) 0 0 lo hi with|some o=>some o|none=>none
    |some _=>none
   |_=>none
  |none=>none
 |_=>none
def LI(mx:Bool)(x y:V):Option AT:=match x with
 |.d (.int k) a=>match y with
  |.d (.int k') b=>match Lr k k' with
   |true=>match mx with|true=>some ⟨none,.d (.int k) (max a b),none⟩|false=>some ⟨none,.d (.int k) (min a b),none⟩
   |false=>none
  |_=>none
 |_=>none
def Bm{α β:Type}[DecidableEq α](m:α→Option β)(k:α)(x:β):α→Option β:=λj=>if j=k then some x else m j
def NY(τ:AK)(n:Nat)(t:TypeId):Option AT:=match τ t with
 |some ⟨.map k e,_,_,_,_⟩=>match τ e with
  |some ⟨_,_,_,_,some T⟩=>match Nat.beq T.size 1 with
   |true=>match τ k with|some ⟨.str,_,_,_,_⟩=>some ⟨none,.map n,some (n,.smap T λ_=>none,false)⟩|some ⟨.int .i64,_,_,_,_⟩=>some ⟨none,.map n,some (n,.imap T λ_=>none,false)⟩|_=>none
   |false=>none
  |_=>none
 |_=>none
def Nv(ok:Bool)(T:Ty)(x:Option T.den):V:=match ok with|true=>.tup [.d T (x.getD T.dflt),.d .bool x.isSome]|false=>.d T (x.getD T.dflt)
def NX(τ:AK)(os:AA)(t:TypeId)(m k:V)(ok:Bool):Option AT:=match τ t with
 |some ⟨.map kt e,_,_,_,_⟩=>match m with
  |.map l=>match τ e with
   |some ⟨_,_,_,_,some T⟩=>match τ kt with
    |some ⟨.str,_,_,_,_⟩=>match O l os with
     |some (.smap T' f)=>match k with|.d .str s=>if T'=T then match Nat.beq T.size 1 with|true=>some ⟨none,Nv ok T' (f s),none⟩|false=>none else none|_=>none
     |_=>none
    |some ⟨.int .i64,_,_,_,_⟩=>match O l os with
     |some (.imap T' f)=>match k with|.d (.int .i64) n=>if T'=T then match Nat.beq T.size 1 with|true=>some ⟨none,Nv ok T' (f n),none⟩|false=>none else none|_=>none
     |_=>none
    |_=>none
   |_=>none
  |_=>none
 |_=>none
def Na(τ:AK)(os:AA)(t:TypeId)(m k x:V):Option AT:=match τ t with
 |some ⟨.map kt e,_,_,_,_⟩=>match m with
  |.map l=>match τ kt with
   |some ⟨.str,_,_,_,_⟩=>match O l os with
    |some (.smap T f)=>match k with
     |.d .str s=>match Cv T [x]with|some y=>some ⟨none,.tup [],some (l,.smap T (Bm f s y),false)⟩|none=>none
     |_=>none
    |_=>none
   |some ⟨.int .i64,_,_,_,_⟩=>match O l os with
    |some (.imap T f)=>match k with
     |.d (.int .i64) n=>match Cv T [x]with|some y=>some ⟨none,.tup [],some (l,.imap T (Bm f n y),false)⟩|none=>none
     |_=>none
    |_=>none
   |_=>none
  |_=>none
 |_=>none
def NP(τ:AK)(os:AA)(t:TypeId)(x:V):Option AT:=match τ t with
 |some ⟨.sl e,_,_,_,_⟩=>match x with
  |.osp l lo n=>match τ e with
   |some ⟨_,_,_,_,some T⟩=>match O l os with|some (.row t xs)=>if t=T then some ⟨some (lo+n≤xs.length),.tup [],some (l,.row t (xs.take lo++List.replicate n t.dflt++xs.drop (lo+n)),false)⟩else none|_=>none
   |_=>none
  |_=>none
 |_=>none
def JM(τ:AK)(t:TypeId)(x ix:V):Option AT:=match τ t with
 |some ⟨.arr n e,_,_,_,_⟩=>match x with
  |.agg cs=>match ix with
   |.d (.int _) (.ofNat i)=>match τ e with
    |some ei=>match Nat.blt i n&&Nat.beq ei.size 1&&!ei.isAgg&&ei.k.known with
     |true=>match cs[i]? with|some v=>some ⟨none,v,none⟩|none=>none
     |false=>none
    |none=>none
   |_=>none
  |_=>none
 |_=>none
def NO(τ:AK)(os:AA)(n:Nat)(b:Builtin)(ts:List TypeId)(args:List V):Option AT:=match b with
 |.len=>match ts with
  |[t]=>match args with|[x]=>NV τ os t x|_=>none
  |_=>none
 |.append=>match ts with
  |[t,u]=>match args with|[s,x]=>IA τ os n t u s x|_=>none
  |_=>none
 |.copy=>match ts with
  |[t,u]=>match args with|[d,x]=>NR τ os t u d x|_=>none
  |_=>none
 |.min=>match args with|[x,y]=>LI false x y|_=>none
 |.max=>match args with|[x,y]=>LI true x y|_=>none
 |.clear=>match ts with
  |[t]=>match args with|[x]=>NP τ os t x|_=>none
  |_=>none
 |.cap=>match ts with
  |[t]=>match args with
   |[.nils]=>match τ t with|some ⟨.sl _,_,_,_,_⟩=>some ⟨none,.d (.int .i64) (0:Int),none⟩|_=>none
   |_=>none
  |_=>none
 |_=>none
def Ks:V→Option (Option Prop×Bool)|.d .bool b=>some (none,b)|.when g (.d .bool b)=>some (some (g=true),b)|_=>none
def MJ(c:Bool):Option Prop→Option Prop→Option Prop|none,none=>none|some p,none=>some (c=true→p)|none,some q=>some (c=false→q)|some p,some q=>some ((c=true→p)∧(c=false→q))
def Nc(a b:Operand)(c x y:V):Option AT:=match c with
 |.d .bool c=>match Ks x with
  |some (gx,x)=>match Ks y with
   |some (gy,y)=>match a with|.const (.bool true)=>some ⟨MJ c none gy,.d .bool (c||y),none⟩|_=>match b with|.const (.bool false)=>some ⟨MJ c gx none,.d .bool (c&&x),none⟩|_=>some ⟨MJ c gx gy,.d .bool (cond c x y),none⟩
   |none=>none
  |none=>none
 |_=>none
def Aw(tmps:List (Nat×V)):List Operand→List V|[]=>[]|x::l=>AL tmps x::Aw tmps l
def F1(tmps:List (Nat×V)):List (Nat×Operand)→List (Nat×V)|[]=>[]|(i,x)::l=>(i,AL tmps x)::F1 tmps l
def MF(tmps:List (Nat×V)):Option Operand→Option V|none=>none|some x=>some (AL tmps x)
def JL(τ:AK)(op:Op)(tmps:List (Nat×V))(os:AA)(n:Nat):Option AT:=match op with
 |.move x=>some ⟨none,AL tmps x,none⟩|.assign x=>some ⟨none,AL tmps x,none⟩|.pick c a b=>Nc a b (AL tmps c) (AL tmps a) (AL tmps b)|.alloc t=>NJ τ n t|.box _ x=>NL n (AL tmps x)|.build t parts=>NM τ t (F1 tmps parts.toList)|.buildSlice t m parts=>NN τ n t m (F1 tmps parts.toList)|.load t a=>NW τ os t (AL tmps a)|.store t a x=>Nf τ os t (AL tmps a) (AL tmps x)|.nilCheck x=>match AL tmps x with|.ref l o=>some ⟨none,.ref l o,none⟩|.er cs=>some ⟨none,.er cs,none⟩|.opt b (.er cs)=>some ⟨some (b=true),.er cs,none⟩|.fn (.func f) a b=>some ⟨none,.fn (.func f) a b,none⟩|_=>none
 |.binOp op xt x y _=>NK τ op xt (AL tmps x) (AL tmps y)|.unOp op _ x=>Ng op (AL tmps x)|.convert a b x=>NQ τ os a b (AL tmps x)|.makeFunc f a b=>some ⟨none,.fn f (Aw tmps a.toList) (Aw tmps b.toList),none⟩|.makeSlice t l c=>NZ τ n t (AL tmps l) (AL tmps c)|.slice t x lo hi mx=>Nd τ os t (AL tmps x) (MF tmps lo) (MF tmps hi) (MF tmps mx)|.fieldAddr t x f=>NS τ os t (AL tmps x) f|.indexAddr t x i=>NT τ os t (AL tmps x) (AL tmps i)|.index t x i=>JM τ t (AL tmps x) (AL tmps i)|.makeMap t none=>NY τ n t|.lookup t m k ok=>NX τ os t (AL tmps m) (AL tmps k) ok|.mapUpdate t m k x=>Na τ os t (AL tmps m) (AL tmps k) (AL tmps x)|.extract x i=>match AL tmps x with
  |.tup vs=>match vs[i]? with|some v=>some ⟨none,v,none⟩|none=>none
  |_=>none
 |.call {callee:=.builtin b,args,argTypes}=>NO τ os n b argTypes.toList (Aw tmps args.toList)|_=>none
section
section inv
variable {P : Program} {E : AB} {c : Value}
theorem N.int_inv{k:IntKind}{n:Int}(h:N P E (.d (.int k) n) c):c=.int k n:=by cases h with|d h=>simpa[Al]using h
theorem N.bool_inv{b:Bool}(h:N P E (.d .bool b) c):c=.bool b:=by cases h with|d h=>simpa[Al]using h
theorem N.str_inv{s:ByteArray}(h:N P E (.d .str s) c):c=.string s:=by cases h with|d h=>simpa[Al]using h
theorem N.mk_int(k:IntKind)(n:Int):N P E (.d (.int k) n) (.int k n):=.d rfl
theorem N.mk_bool(b:Bool):N P E (.d .bool b) (.bool b):=.d rfl
theorem N.mk_str(s:ByteArray):N P E (.d .str s) (.string s):=.d rfl
theorem Qr{T:Ty}{v:V}{l:List T.den}(h:I7 T v=some l)(r:N P E v c):Al E.w E.S (.sl T) l [c]:=by
 unfold I7 at h;split at h
 ·split at h;·rename_i ht;subst ht;cases h;cases r with|d h=>exact h
  ·cases h
 ·cases h;cases r;exact⟨_,_,rfl,⟨dT _,fW _⟩,λh=>absurd rfl h⟩
 ·cases h
def AE(P:Program)(E:AB)(vs:List V)(cs:List Value):Prop:=cs.length=vs.length∧∀j,j<vs.length→N P E (vs.getD j .any) (cs.getD j undef)
theorem AE.nil:AE P E [] []:=⟨rfl,λj h=>absurd h (by simp)⟩
theorem AE.cons{v:V}{vs:List V}{c:Value}{cs:List Value}(h:N P E v c)(r:AE P E vs cs):AE P E (v::vs) (c::cs):=⟨by simp[r.1],λj hj=>by cases j with|zero=>simpa using h|succ j=>simpa using r.2 j (by simpa using hj)⟩
theorem AE.head{v:V}{vs:List V}{c:Value}{cs:List Value}(r:AE P E (v::vs) (c::cs)):N P E v c:=by simpa using r.2 0 (by simp)
theorem AE.tail{v:V}{vs:List V}{c:Value}{cs:List Value}(r:AE P E (v::vs) (c::cs)):AE P E vs cs:=⟨by simpa using r.1,λj hj=>by simpa using r.2 (j+1) (by simpa using hj)⟩
theorem AE.append{vs ws:List V}{cs ds:List Value}(h:AE P E vs cs)(k:AE P E ws ds):AE P E (vs++ws) (cs++ds):=by induction vs generalizing cs with|nil=>have :cs=[]:=dZ (by simpa using h.1);subst this;simpa using k|cons v vs ih=>cases cs with|nil=>have :=h.1;simp at this|cons c cs=>exact .cons h.head (ih h.tail)
theorem AE.take{vs:List V}{cs:List Value}(h:AE P E vs cs)(n:Nat):AE P E (vs.take n) (cs.take n):=by induction vs generalizing cs n with|nil=>have :cs=[]:=dZ (by simpa using h.1);subst this;simpa using h|cons v vs ih=>cases cs with|nil=>have :=h.1;simp at this|cons c cs=>cases n with|zero=>exact .nil|succ n=>exact .cons h.head (ih h.tail n)
theorem AE.drop{vs:List V}{cs:List Value}(h:AE P E vs cs)(n:Nat):AE P E (vs.drop n) (cs.drop n):=by induction n generalizing vs cs with|zero=>simpa using h|succ n ih=>cases vs with|nil=>have :cs=[]:=dZ (by simpa using h.1);subst this;simpa using h|cons v vs=>cases cs with|nil=>have :=h.1;simp at this|cons c cs=>simpa using ih h.tail
theorem AE.mono{E':AB}(hx:BE E E' []){vs:List V}{cs:List Value}(h:AE P E vs cs):AE P E' vs cs:=⟨h.1,λj hj=>(h.2 j hj).mono hx⟩
theorem GP:∀{t:Ty}{x:t.den}{cs:List Value},Al E.w E.S t x cs→AE P E (DI t x) cs|.int _,_,_,h=>by have h':=h;rw[show _=_ from h]at h'⊢;exact .cons (.d h') .nil|.bool,_,_,h=>by have h':=h;rw[show _=_ from h]at h'⊢;exact .cons (.d h') .nil|.str,_,_,h=>by have h':=h;rw[show _=_ from h]at h'⊢;exact .cons (.d h') .nil|.sl _,_,_,h=>by have h':=h;obtain⟨a,c,rfl,_⟩:=h;exact .cons (.d h') .nil|.pair _ _,_,_,⟨c1,c2,h,h1,h2⟩=>by rw[h];exact(GP h1).append (GP h2)|.unit,_,_,h=>by rw[show _=_ from h];exact .nil
theorem AE.single{v:V}{cs:List Value}(r:AE P E [v] cs):∃c,cs=[c]∧N P E v c:=by match cs,r with|[],r=>have :=r.1;simp at this|[c],r=>exact⟨c,rfl,r.head⟩|_::_::_,r=>have :=r.1;simp at this
theorem Ou{a b:IntKind}(h:Lr a b=true):a=b:=by cases a<;>cases b<;>first|rfl|cases h
theorem D1:∀{t:Ty}{vs:List V}{x:t.den}{cs:List Value},Cv t vs=some x→AE P E vs cs→Al E.w E.S t x cs
 |.int k,vs,x,cs,h,r=>by
  simp only[Cv,PW]at h;split at h
  ·split at h;·rename_i hk;cases h;rw[←Ou hk];obtain⟨c,rfl,h'⟩:=r.single;rw[h'.int_inv];rfl
   ·cases h
  ·cases h|.bool,vs,x,cs,h,r=>by
  simp only[Cv,PV]at h;split at h;·cases h;obtain⟨c,rfl,h'⟩:=r.single;rw[h'.bool_inv];rfl
  ·cases h|.str,vs,x,cs,h,r=>by
  simp only[Cv,PX]at h;split at h;·cases h;obtain⟨c,rfl,h'⟩:=r.single;rw[h'.str_inv];rfl
  ·cases h|.sl t,vs,x,cs,h,r=>by
  simp only[Cv,UW]at h;split at h;·obtain⟨c,rfl,h'⟩:=r.single;exact Qr h h'
  ·cases h|.pair a b,vs,x,cs,h,r=>by
  simp only[Cv]at h;split at h
  ·rename_i p hp;split at h;·rename_i q hq;cases h;exact⟨cs.take a.size,cs.drop a.size,(gD _ _).symm,D1 hp (r.take _),D1 hq (r.drop _)⟩
   ·cases h
  ·cases h|.unit,vs,x,cs,h,r=>by
  simp only[Cv,UX]at h;split at h;·exact dZ (by simpa using r.1)
  ·cases h
theorem Mc(c:Value):N P E (Mb c) c:=by
 unfold Mb;split;·exact .mk_int _ _
 ·exact .mk_bool _
 ·exact .mk_str _
 ·exact .nils _
 ·exact .nilp
 ·exact .nilf
 ·exact .nilm
 ·rename_i vs;split;·rename_i h;exact .tup (by simpa using eR List.length h) λj hj=>absurd hj (by simp)
  ·exact .any _
 ·exact .any _
theorem Mf(vs:List Value):AE P E (Gw vs) vs:=by induction vs with|nil=>exact .nil|cons v vs ih=>exact .cons (Mc v) ih
theorem MS:∀{v:V}{c:Value},v.solid=true→N P E v c→c.oneCell'=true
 |.any,_,h,_=>by simp[V.solid]at h|.when ..,_,h,_=>by simp[V.solid]at h|.tup _,_,h,_=>by simp[V.solid]at h|.agg _,_,h,_=>by simp[V.solid]at h|.opt b v,c,h,r=>by cases r with|opt h1 h2=>cases b with|true=>exact MS (by simpa[V.solid]using h) (h1 rfl)|false=>rw[h2 rfl];rfl
 |.d t x,c,_,r=>by cases r with|d h=>exact h.one c (by simp)
 |.nilp,c,_,r=>by cases r;rfl|.nilf,c,_,r=>by cases r;rfl|.nils,c,_,r=>by cases r;rfl|.nilm,c,_,r=>by cases r;rfl|.fn ..,c,_,r=>by cases r;rfl|.er _,c,_,r=>by cases r;rfl|.ref ..,c,_,r=>by cases r;rfl|.rref ..,c,_,r=>by cases r;rfl|.osl ..,c,_,r=>by cases r;rfl|.osp ..,c,_,r=>by cases r with|osp _ h=>obtain⟨a,h,_⟩:=h;rw[h];rfl
 |.map _,c,_,r=>by cases r;rfl|.pf ..,c,_,r=>by cases r with|pf h=>obtain⟨g,a,b,h,_⟩:=h;rw[h];rfl
 |.yl _,c,_,r=>by cases r;rfl|.bsl ..,c,_,r=>by cases r;rfl
theorem NA{c:Value}(h:c.oneCell'=true):c.cells=#[c]:=by cases c<;>simp[Value.oneCell']at h<;>rfl
theorem Qi:∀{l:List V},Ko l=true→∀v∈l,v.solid=true
 |[],_,v,h=>by simp at h|u::l,h,v,hv=>by
  unfold Ko at h;split at h
  ·rename_i hu;rcases List.mem_cons.1 hv with rfl|hv;·exact hu
   ·exact Qi h v hv
  ·cases h
theorem MQ{v:V}{cs:List V}{c:Value}(h:v.scells=some cs)(r:N P E v c):AE P E cs c.cells.toList∧∀u∈c.cells.toList,u.oneCell'=true:=by
 unfold V.scells at h;split at h
 ·split at h;·rename_i ds hs;cases h;cases r with|agg h1 h2=>
   rename_i a;have hr:AE P E cs a.toList:=⟨by simpa using h1,λj hj=>by simpa[dQ,dM]using h2 j hj⟩;refine⟨hr,λu hu=>?_⟩;change u∈a.toList at hu;obtain⟨j,hj,rfl⟩:=List.getElem_of_mem hu;have hj':j<cs.length:=by rw[←hr.1];exact hj
   have :=hr.2 j hj';simp only[dM,dY hj,dY hj',hY]at this;exact MS (Qi hs _ (kG hj')) this
  ·cases h
 ·split at h;·rename_i hs;cases h;have h1:=MS hs r;rw[NA h1];refine⟨.cons r .nil,λu hu=>?_⟩;simp at hu;subst hu;exact h1
  ·cases h
end inv
end
section
variable {P : Program}
theorem UD{f:V→V}(hf:f .any=.any)(t:Nat):∀l:List (Nat×V),AF t (l.map λp=>(p.1,f p.2))=f (AF t l)
 |[]=>hf.symm|(u,v)::l=>by
  rw[fK,BU,BU];split;·rfl
  ·exact UD hf t l
theorem Hf(f:V→V)(t:Nat)(l:List (Nat×V)):AF t (l.map λp=>(p.1,p.2.subst f))=(AF t l).subst f:=UD (f:=V.subst f) rfl t l
theorem ER(f:V→V)(l:Nat):∀objs:AA,O l (substO f objs)=(O l objs).map (Obj.subst f)
 |[]=>rfl|(k,o)::r=>by
  rw[substO,Ad,Ad];split;·rfl
  ·exact ER f l r
theorem Obj.has_subst{f:V→V}{o:Obj}{L:AH}:(o.subst f).has L↔o.has L:=by cases o<;>exact Iff.rfl
theorem UV{f:V→V}{E:AB}{objs:AA}{b:Nat}:Bi E (substO f objs) b↔Bi E objs b:=by
 constructor;·rintro⟨l,o,L,h1,h2,h3,h4⟩;rw[ER,eL]at h1;obtain⟨o',h5,rfl⟩:=h1;exact⟨l,o',L,h5,h2,Obj.has_subst.1 h3,h4⟩
 ·rintro⟨l,o,L,h1,h2,h3,h4⟩;exact⟨l,o.subst f,L,by rw[ER,h1];rfl,h2,Obj.has_subst.2 h3,h4⟩
theorem AY.keepS{E E':AB}{L:AH}{o:Obj}{f:V→V}(h:AY P E L o)(hr:∀v c,N P E v c→N P E' (v.subst f) c)(hS:∀b,E.S b→E'.S b∧E'.w.heap[b]?=E.w.heap[b]?)(hb:o.has L→E'.w.heap[L.b]?=E.w.heap[L.b]?):AY P E' L (o.subst f):=by cases o with
 |dead=>trivial|box cs=>
  obtain⟨vals,t,h2,h3,h4⟩:=h;have len:(Br f cs).length=cs.length:=by rw[Fc,fB]
  exact⟨vals,t,by rw[hb trivial];exact h2,by rw[len];exact h3,λj hj=>by rw[len]at hj;rw[F9 hj];exact hr _ _ (h4 j hj)⟩|row t xs=>
  obtain⟨h1,h2,h3,e,cs,h4,h5⟩:=h;refine⟨h1,h2,h3,e,cs,h4.mono hS,?_⟩;rcases h5 with h5|⟨cur,h5,h6,h7,h8,h9⟩;·exact .inl h5
  ·exact .inr ⟨cur,h5,by rw[hb (by simp only[Obj.has];omega)];exact h6,h7,h8,h9⟩|vrow t xs s m=>
  obtain⟨h1,h2,h3,e,cs,h4,h5⟩:=h;have len:(Br f s).length=s.length:=by rw[Fc,fB]
  refine⟨h1,by rw[len];exact h2,by rw[len];exact h3,e,cs,h4.mono hS,?_⟩;rcases h5 with h5|⟨cur,h5,h6,h7,h8,h9,Au,CG,C7,DJ⟩;·exact .inl h5
  ·exact .inr ⟨cur,h5,by rw[hb (by simp only[Obj.has];omega)];exact h6,h7,h8,h9,Au,CG,λj hj=>by rw[len]at hj;rw[F9 hj];exact hr _ _ (C7 j hj),by rw[len];exact DJ⟩|smap t m=>obtain⟨es,c,h2,h3⟩:=h;exact⟨es,c,by rw[hb trivial];exact h2,h3.mono hS⟩|imap t m=>obtain⟨es,c,h2,h3⟩:=h;exact⟨es,c,by rw[hb trivial];exact h2,h3.mono hS⟩|lrec nt tmps ps a b st j=>obtain⟨r,h1,h2,h3,h4⟩:=h;exact⟨r,by rw[hb trivial];exact h1,h2,λt=>by rw[Hf];exact hr _ _ (h3 t),h4⟩|dfb=>exact(hb trivial).trans h
theorem AY.keep{E E':AB}{L:AH}{o:Obj}(h:AY P E L o)(hx:BE E E' [])(hb:o.has L→E'.w.heap[L.b]?=E.w.heap[L.b]?):AY P E' L o:=by cases o with
 |dead=>trivial|box cs=>obtain⟨vals,t,h2,h3,h4⟩:=h;exact⟨vals,t,by rw[hb trivial];exact h2,h3,λj hj=>(h4 j hj).mono hx⟩|row t xs=>
  obtain⟨h1,h2,h3,e,cs,h4,h5⟩:=h;refine⟨h1,h2,h3,e,cs,h4.mono hx.S,?_⟩;rcases h5 with h5|⟨cur,h5,h6,h7,h8,h9⟩;·exact .inl h5
  ·exact .inr ⟨cur,h5,by rw[hb (by simp only[Obj.has];omega)];exact h6,h7,h8,h9⟩|vrow t xs s m=>
  obtain⟨h1,h2,h3,e,cs,h4,h5⟩:=h;refine⟨h1,h2,h3,e,cs,h4.mono hx.S,?_⟩;rcases h5 with h5|⟨cur,h5,h6,h7,h8,h9,Au,CG,C7,DJ⟩;·exact .inl h5
  ·exact .inr ⟨cur,h5,by rw[hb (by simp only[Obj.has];omega)];exact h6,h7,h8,h9,Au,CG,λj hj=>(C7 j hj).mono hx,DJ⟩|smap t m=>obtain⟨es,c,h2,h3⟩:=h;exact⟨es,c,by rw[hb trivial];exact h2,h3.mono hx.S⟩|imap t m=>obtain⟨es,c,h2,h3⟩:=h;exact⟨es,c,by rw[hb trivial];exact h2,h3.mono hx.S⟩|lrec nt tmps ps a b st j=>obtain⟨r,h1,h2,h3,h4⟩:=h;exact⟨r,by rw[hb trivial];exact h1,h2,λt=>(h3 t).mono hx,h4⟩|dfb=>exact(hb trivial).trans h
def AB.setL(E:AB)(w:World)(l:Nat)(L:AH):AB:=⟨w,E.S,λj=>if j=l then some L else E.loc j⟩
theorem A6(E:AB)(w:World)(l:Nat)(L:AH):(E.setL w l L).loc l=some L:=dO rfl
theorem Ax(E:AB)(w:World){l j:Nat}(L:AH)(h:j≠l):(E.setL w l L).loc j=E.loc j:=dK h
theorem World.grownBy_refl'(w:World):w.grownBy w none:=⟨rfl,rfl,rfl,dT _,λ_ _ _=>rfl⟩
theorem KP{E:AB}{objs:AA}(g:U P E objs){w:World}{l:Nat}(L:AH)(hf:E.loc l=none)(hw:E.w.grownBy w none):BE E (E.setL w l L) []:=⟨λb hb=>⟨hb,hw.block b (g.sl b hb) (by simp)⟩,λj K _ hj=>by
 have AU:j≠l:=by rintro rfl;rw[hf]at hj;cases hj
 rw[Ax _ _ _ AU];exact hj⟩
theorem EC{k l:Nat}{o:Obj}{r:AA}(h:O k ((l,o)::r)=none):k≠l∧O k r=none:=by
 rw[Ad]at h;split at h;·cases h
 ·rename_i e;exact⟨λe'=>e e'.symm,h⟩
theorem SI{k l:Nat}{o:Obj}{mv:Bool}{r:AA}(h:O k (edit r (some (l,o,mv)))=none):k≠l∧O k r=none:=by cases mv with|false=>exact EC h|true=>obtain⟨h1,h2⟩:=EC h;rw[ER]at h2;exact⟨h1,by simpa using h2⟩
theorem U.push{E:AB}{objs:AA}(g:U P E objs){w:World}{l:Nat}{L:AH}{o:Obj}(hf:E.loc l=none)(hw:E.w.grownBy w none)(ho:AY P (E.setL w l L) L o)(hb:o.has L→E.w.heap.size≤L.b):U P (E.setL w l L) ((l,o)::objs)∧Ak E objs (E.setL w l L) ((l,o)::objs) []:=by
 have hx:=KP g L hf hw;have AU:∀{j p},O j objs=some p→j≠l:=by rintro j p h rfl;obtain⟨K,hK,_⟩:=g.at_ _ _ h;rw[hf]at hK;cases hK
 have BA:∀j p,O j ((l,o)::objs)=some p→j≠l∧O j objs=some p∨j=l∧p=o:=by
  intro j p h;rw[Ad]at h;split at h;·rename_i e;exact .inr ⟨e.symm,by cases h;rfl⟩
  ·rename_i e;exact .inl ⟨λe'=>e e'.symm,h⟩
 have EH:∀b,Bi (E.setL w l L) ((l,o)::objs) b→Bi E objs b∨E.w.heap.size≤b:=by
  rintro b⟨j,p,K,h1,h2,h3,h4⟩;rcases BA j p h1 with⟨hn,h⟩|⟨rfl,rfl⟩;·rw[Ax _ _ _ hn]at h2;exact .inl ⟨j,p,K,h,h2,h3,h4⟩
  ·rw[A6]at h2;cases h2;exact .inr (h4▸hb h3)
 refine⟨⟨λj p h=>?_,λb h hs=>?_,λb h=>gF (g.sl b h) hw.size,g.tab.mono hx.S,λi j p q K K' h1 h2 h3 h4 h5 h6 h7=>?_⟩,⟨hx,hw.os,hw.tape,hw.output,hw.size,λb h _=>hw.block b h (by simp),λb h=>(EH b h).elim .inr .inl,λb h=>.inl h,λk h=>(EC h).2,λk h=>Ax _ _ _ (EC h).1⟩⟩
 ·rcases BA j p h with⟨hn,h⟩|⟨rfl,rfl⟩;·obtain⟨K,hK,ha⟩:=g.at_ j p h;exact⟨K,by rw[Ax _ _ _ hn];exact hK,ha.keep hx λhh=>hw.block _ (ha.block_lt hh) (by simp)⟩
  ·exact⟨L,A6 _ _ _ _,ho⟩
 ·rcases EH b h with h|h;·exact g.ns b h hs
  ·have :=g.sl b hs;omega
 ·rcases BA i p h1 with⟨hi,k1⟩|⟨rfl,rfl⟩<;>rcases BA j q h2 with⟨hj,k2⟩|⟨rfl,rfl⟩;·rw[Ax _ _ _ hi]at h3;rw[Ax _ _ _ hj]at h4;exact g.inj i j p q K K' k1 k2 h3 h4 h5 h6 h7
  ·rw[Ax _ _ _ hi]at h3;rw[A6]at h4;cases h4;obtain⟨K0,En,ha⟩:=g.at_ i p k1;rw[h3]at En;cases En;have :=ha.block_lt h5;have :=hb h6;omega
  ·rw[Ax _ _ _ hj]at h4;rw[A6]at h3;cases h3;obtain⟨K0,En,ha⟩:=g.at_ j q k2;rw[h4]at En;cases En;have :=ha.block_lt h6;have :=hb h5;omega
  ·rfl
theorem Hl{E:AB}{objs:AA}(g:U P E objs){w:World}{l:Nat}{L L':AH}{o:Obj}{row:Option Nat}{M:List Nat}(hl:O l objs=some o)(hL:E.loc l=some L)(hw:E.w.grownBy w row)(BW:∀b,row=some b→o.has L∧b=L.b)(hM:l∉M→L'=L):BE E (E.setL w l L') M:=⟨λb hs=>⟨hs,hw.block b (g.sl b hs) (by intro e;obtain⟨h1,h2⟩:=BW b e.symm;exact g.ns b ⟨l,o,L,hl,hL,h1,h2.symm⟩ hs)⟩,λj K hj hK=>by
 by_cases AU:j=l;·subst AU;rw[hL]at hK;cases hK;rw[A6,hM hj]
 ·rw[Ax _ _ _ AU];exact hK⟩
theorem J8{E E':AB}{l:Nat}(hx:BE E E' [l]){v:V}{c:Value}(r:N P E v c):N P E' (v.subst (Bh l)) c:=by refine Ht hx.S (λv c hv r=>?_) r;have loc:∀{k L},E.loc k=some L→k≠l→E'.loc k=some L:=λh AU=>hx.loc _ _ (by simpa using AU) h;cases r<;>simp only[V.isRef,eW]at hv<;>simp only[Bh,V.key]<;>split<;>first|exact .any _|(rename_i e;have AU:=fS e;have hl:=loc (by assumption) AU;first|exact .ref hl|exact .rref hl|exact .osl hl|exact .osp hl (by assumption)|exact .map hl|exact .yl hl|exact .bsl hl)
theorem U.put{E:AB}{objs:AA}(g:U P E objs){w:World}{l:Nat}{L L':AH}{o o':Obj}{row:Option Nat}{mv:Bool}(hl:O l objs=some o)(hL:E.loc l=some L)(hw:E.w.grownBy w row)(BW:∀b,row=some b→o.has L∧b=L.b)(EV:mv=false→L'=L)(ho:AY P (E.setL w l L') L' o')(hb:o'.has L'→o.has L∧L'.b=L.b∨E.w.heap.size≤L'.b):U P (E.setL w l L') (edit objs (some (l,o',mv)))∧Ak E objs (E.setL w l L') (edit objs (some (l,o',mv))) (moved (some (l,o',mv))):=by
 have hM:l∉moved (some (l,o',mv))→L'=L:=by cases mv with|false=>exact λ_=>EV rfl|true=>intro h;simp[moved]at h
 have hx:=Hl g (M:=moved (some (l,o',mv))) hl hL hw BW hM;have cN:∀b,E.S b→some b≠row:=by intro b hs e;obtain⟨h1,h2⟩:=BW b e.symm;exact g.ns b ⟨l,o,L,hl,hL,h1,h2.symm⟩ hs
 have BA:∀j p,O j (edit objs (some (l,o',mv)))=some p→(j≠l∧∃q,O j objs=some q∧(∀K,p.has K↔q.has K)∧∀K,AY P E K q→(q.has K→w.heap[K.b]?=E.w.heap[K.b]?)→AY P (E.setL w l L') K p)∨j=l∧p=o':=by intro j p h;cases mv with
  |false=>
   have Yv:=Hl g (M:=[]) hl hL hw BW λ_=>EV rfl;simp only[edit,Ad]at h;split at h;·rename_i e;exact .inr ⟨e.symm,by cases h;rfl⟩
   ·rename_i e;exact .inl ⟨λe'=>e e'.symm,p,h,λ_=>Iff.rfl,λK ha hk=>ha.keep Yv hk⟩|true=>
   simp only[edit,Ad]at h;split at h;·rename_i e;exact .inr ⟨e.symm,by cases h;rfl⟩
   ·rename_i e;rw[ER,eL]at h;obtain⟨q,hq,rfl⟩:=h;exact .inl ⟨λe'=>e e'.symm,q,hq,λ_=>Obj.has_subst,λK ha hk=>ha.keepS (λv c r=>J8 hx r) hx.S hk⟩
 have EH:∀b,Bi (E.setL w l L') (edit objs (some (l,o',mv))) b→Bi E objs b∨E.w.heap.size≤b:=by
  rintro b⟨j,p,K,h1,h2,h3,h4⟩;rcases BA j p h1 with⟨hn,q,hq,hh,_⟩|⟨rfl,rfl⟩;·rw[Ax _ _ _ hn]at h2;exact .inl ⟨j,q,K,hq,h2,(hh K).1 h3,h4⟩
  ·rw[A6]at h2;cases h2;rcases hb h3 with⟨h5,h6⟩|h5;·exact .inl ⟨j,o,L,hl,hL,h5,by rw[←h6,h4]⟩
   ·exact .inr (h4▸h5)
 refine⟨⟨λj p h=>?_,λb h hs=>?_,λb h=>gF (g.sl b h) hw.size,g.tab.mono hx.S,λi j p q K K' h1 h2 h3 h4 h5 h6 h7=>?_⟩,⟨hx,hw.os,hw.tape,hw.output,hw.size,λb h hn=>hw.block b h λe=>?_,λb h=>(EH b h).elim .inr .inl,λb h=>.inl h,λk h=>(SI h).2,λk h=>Ax _ _ _ (SI h).1⟩⟩
 ·rcases BA j p h with⟨hn,q,hq,hh,hc⟩|⟨rfl,rfl⟩;·obtain⟨K,hK,ha⟩:=g.at_ j q hq;refine⟨K,by rw[Ax _ _ _ hn];exact hK,hc K ha λBv=>hw.block _ (ha.block_lt Bv) λe=>hn ?_⟩;obtain⟨h6,h7⟩:=BW _ e.symm;exact g.inj j l q o K L hq hl hK hL Bv h6 h7
  ·exact⟨L',A6 _ _ _ _,ho⟩
 ·rcases EH b h with h|h;·exact g.ns b h hs
  ·have :=g.sl b hs;omega
 ·rcases BA i p h1 with⟨hi,p',k1,hp,_⟩|⟨rfl,rfl⟩<;>rcases BA j q h2 with⟨hj,q',k2,hq,_⟩|⟨rfl,rfl⟩;·rw[Ax _ _ _ hi]at h3;rw[Ax _ _ _ hj]at h4;exact g.inj i j p' q' K K' k1 k2 h3 h4 ((hp K).1 h5) ((hq K').1 h6) h7
  ·rw[Ax _ _ _ hi]at h3;rw[A6]at h4;cases h4;rcases hb h6 with⟨h8,h9⟩|h8;·exact g.inj i j p' o K L k1 hl h3 hL ((hp K).1 h5) h8 (h7.trans h9)
   ·obtain⟨K0,En,ha⟩:=g.at_ i p' k1;rw[h3]at En;cases En;have :=ha.block_lt ((hp K).1 h5);omega
  ·rw[Ax _ _ _ hj]at h4;rw[A6]at h3;cases h3;rcases hb h5 with⟨h8,h9⟩|h8;·exact g.inj i j o q' L K' hl k2 hL h4 h8 ((hq K').1 h6) (h9.symm.trans h7)
   ·obtain⟨K0,En,ha⟩:=g.at_ j q' k2;rw[h4]at En;cases En;have :=ha.block_lt ((hq K').1 h6);omega
  ·rfl
 ·obtain⟨h6,h7⟩:=BW b e.symm;exact hn ⟨l,o,L,hl,hL,h6,h7.symm⟩
def AB.still(E:AB)(b:Nat)(has:Prop):AB:=⟨E.w,λk=>E.S k∨has∧k=b,E.loc⟩
theorem U.still{E:AB}{objs:AA}(g:U P E objs){l:Nat}{o:Obj}{L:AH}(hl:O l objs=some o)(hL:E.loc l=some L):U P (E.still L.b (o.has L)) ((l,.dead)::objs)∧Ak E objs (E.still L.b (o.has L)) ((l,.dead)::objs) []:=by
 have hx:BE E (E.still L.b (o.has L)) []:=⟨λb hs=>⟨.inl hs,rfl⟩,λj K _ hK=>hK⟩;have BA:∀j p,O j ((l,Obj.dead)::objs)=some p→j≠l∧O j objs=some p∨j=l∧p=.dead:=by
  intro j p h;rw[Ad]at h;split at h;·rename_i e;exact .inr ⟨e.symm,by cases h;rfl⟩
  ·rename_i e;exact .inl ⟨λe'=>e e'.symm,h⟩
 have EH:∀b,Bi (E.still L.b (o.has L)) ((l,.dead)::objs) b→∃j p K,j≠l∧O j objs=some p∧E.loc j=some K∧p.has K∧K.b=b:=by
  rintro b⟨j,p,K,h1,h2,h3,h4⟩;rcases BA j p h1 with⟨AU,h⟩|⟨rfl,rfl⟩;·exact⟨j,p,K,AU,h,h2,h3,h4⟩
  ·exact h3.elim
 refine⟨⟨λj p h=>?_,λb h hs=>?_,?_,g.tab.mono hx.S,λi j p q K K' h1 h2 h3 h4 h5 h6 h7=>?_⟩,⟨hx,rfl,rfl,rfl,dT _,λ_ _ _=>rfl,λb h=>?_,λb h=>?_,λk h=>(EC h).2,λ_ _=>rfl⟩⟩
 ·rcases BA j p h with⟨AU,h⟩|⟨rfl,rfl⟩;·obtain⟨K,hK,ha⟩:=g.at_ j p h;exact⟨K,hK,ha.keep hx λ_=>rfl⟩
  ·exact⟨L,hL,trivial⟩
 ·obtain⟨j,p,K,AU,h1,h2,h3,h4⟩:=EH b h;rcases hs with hs|⟨hh,e⟩;·exact g.ns b ⟨j,p,K,h1,h2,h3,h4⟩ hs
  ·exact AU (g.inj j l p o K L h1 hl h2 hL h3 hh (h4.trans e))
 ·rintro b(hs|⟨hh,rfl⟩);·exact g.sl b hs
  ·exact g.own_lt ⟨l,o,L,hl,hL,hh,rfl⟩
 ·rcases BA i p h1 with⟨hi,h1⟩|⟨rfl,rfl⟩
  ·rcases BA j q h2 with⟨hj,h2⟩|⟨rfl,rfl⟩;·exact g.inj i j p q K K' h1 h2 h3 h4 h5 h6 h7
   ·exact h6.elim
  ·exact h5.elim
 ·obtain⟨j,p,K,AU,h1,h2,h3,h4⟩:=EH b h;exact .inr ⟨j,p,K,h1,h2,h3,h4⟩
 ·rcases h with h|⟨hh,e⟩;·exact .inl h
  ·exact .inr (.inr ⟨l,o,L,hl,hL,hh,e.symm⟩)
theorem U.grow{E:AB}{objs:AA}(g:U P E objs){w:World}{S:Nat→Prop}(h:EN E.w E.S w S):U P ⟨w,S,E.loc⟩ objs∧Ak E objs ⟨w,S,E.loc⟩ objs []:=by
 have hx:BE E ⟨w,S,E.loc⟩ []:=⟨λb hs=>⟨h.up b hs,h.frame b (g.sl b hs)⟩,λ_ _ _ hK=>hK⟩;refine⟨⟨λj p hj=>?_,λb ho hs=>?_,h.lt,g.tab.mono hx.S,g.inj⟩,⟨hx,h.os,h.tape,h.output,h.size,λb hb _=>h.frame b hb,λb hb=>.inr hb,λb hb=>(h.st b hb).imp_right .inl,λ_ h=>h,λ_ _=>rfl⟩⟩;·obtain⟨K,hK,ha⟩:=g.at_ j p hj;exact⟨K,hK,ha.keep hx λhh=>h.frame _ (ha.block_lt hh)⟩
 ·have AM:=g.own_lt (b:=b) ho;rcases h.st b hs with hs|hs;·exact g.ns b ho hs
  ·omega
def AB.at(E:AB)(w:World):AB:={E with w:=w}
theorem U.at{E:AB}{objs:AA}(g:U P E objs){w:World}(h:w.heap=E.w.heap)(h0:E.w.drawn≤w.drawn)(h1:w.os=E.w.os)(h2:w.tape=E.w.tape)(h3:w.output=E.w.output):U P (E.at w) objs∧Ak E objs (E.at w) objs []:=g.grow (w:=w) (S:=E.S) ⟨h0,h1,h2,h3,by rw[h];exact dT _,λb _=>by rw[h],λ_ h=>h,λ_ h=>.inl h,λb hb=>by rw[h];exact g.sl b hb⟩
theorem U.adopt{E:AB}{objs:AA}(g:U P E objs){n:Nat}{K:AH}{o:Obj}(hf:E.loc n=none)(ho:AY P (E.setL E.w n K) K o)(hb:o.has K→¬E.S K.b∧¬Bi E objs K.b):U P (E.setL E.w n K) ((n,o)::objs)∧∀(E0:AB)(imp:AA)(M:List Nat),Ak E0 imp E objs M→(o.has K→E0.w.heap.size≤K.b∨Bi E0 imp K.b)→Ak E0 imp (E.setL E.w n K) ((n,o)::objs) M:=by
 have hx:=KP g K hf (World.grownBy_refl' E.w);have AU:∀{j p},O j objs=some p→j≠n:=by rintro j p h rfl;obtain⟨L,hL,_⟩:=g.at_ _ _ h;rw[hf]at hL;cases hL
 have BA:∀j p,O j ((n,o)::objs)=some p→j≠n∧O j objs=some p∨j=n∧p=o:=by
  intro j p h;rw[Ad]at h;split at h;·rename_i e;exact .inr ⟨e.symm,by cases h;rfl⟩
  ·rename_i e;exact .inl ⟨λe'=>e e'.symm,h⟩
 have EH:∀b,Bi (E.setL E.w n K) ((n,o)::objs) b→Bi E objs b∨o.has K∧b=K.b:=by
  rintro b⟨j,p,L,h1,h2,h3,h4⟩;rcases BA j p h1 with⟨hn,h⟩|⟨rfl,rfl⟩;·rw[Ax _ _ _ hn]at h2;exact .inl ⟨j,p,L,h,h2,h3,h4⟩
  ·rw[A6]at h2;cases h2;exact .inr ⟨h3,h4.symm⟩
 refine⟨⟨λj p h=>?_,λb h hs=>?_,g.sl,g.tab,λi j p q L L' h1 h2 h3 h4 h5 h6 h7=>?_⟩,λE0 imp M st hk=>⟨⟨st.ext.S,λl L hl hL=>?_⟩,st.os,st.tape,st.output,st.size,st.frame,λb h=>(EH b h).elim (st.own b) λ⟨h1,h2⟩=>h2▸hk h1,st.st,λl h=>st.keys l (EC h).2,λl h=>(Ax _ _ _ (EC h).1).trans (st.dom l (EC h).2)⟩⟩
 ·rcases BA j p h with⟨hn,h⟩|⟨rfl,rfl⟩;·obtain⟨L,hL,ha⟩:=g.at_ j p h;exact⟨L,by rw[Ax _ _ _ hn];exact hL,ha.keep hx λ_=>rfl⟩
  ·exact⟨K,A6 _ _ _ _,ho⟩
 ·rcases EH b h with h'|⟨hh,e⟩;·exact g.ns b h' hs
  ·exact(hb hh).1 (e▸hs)
 ·rcases BA i p h1 with⟨hi,k1⟩|⟨rfl,rfl⟩<;>rcases BA j q h2 with⟨hj,k2⟩|⟨rfl,rfl⟩;·rw[Ax _ _ _ hi]at h3;rw[Ax _ _ _ hj]at h4;exact g.inj i j p q L L' k1 k2 h3 h4 h5 h6 h7
  ·rw[Ax _ _ _ hi]at h3;rw[A6]at h4;cases h4;exact absurd ⟨i,p,L,k1,h3,h5,h7⟩ (hb h6).2
  ·rw[Ax _ _ _ hj]at h4;rw[A6]at h3;cases h3;exact absurd ⟨j,q,L',k2,h4,h6,h7.symm⟩ (hb h5).2
  ·rfl
 ·by_cases e:l=n;·subst e;have :=st.ext.loc l L hl hL;rw[hf]at this;cases this
  ·rw[Ax _ _ _ e];exact st.ext.loc l L hl hL
theorem U.remake{E:AB}{objs:AA}(g:U P E objs){w:World}{l n:Nat}{L K:AH}{o o':Obj}{row:Option Nat}(hl:O l objs=some o)(hL:E.loc l=some L)(hf:E.loc n=none)(hw:E.w.grownBy w row)(BW:∀b,row=some b→o.has L∧b=L.b)(ho:∀lo,AY P ⟨w,E.S,lo⟩ K o')(hb:o'.has K→o.has L∧K.b=L.b∨E.w.heap.size≤K.b):∃E',E'.w=w∧E'.loc n=some K∧U P E' ((n,o')::(l,.dead)::objs)∧Ak E objs E' ((n,o')::(l,.dead)::objs) []:=by
 have hp:=U.put g (mv:=false) (o':=.dead) (L':=L) hl hL hw BW (λ_=>rfl) trivial λh=>h.elim;simp only[edit,moved]at hp;have Dy:n≠l:=λe=>by subst e;rw[hf]at hL;cases hL
 have GU:o'.has K→¬(E.setL w l L).S K.b∧¬Bi (E.setL w l L) ((l,.dead)::objs) K.b:=λhk=>by
  have hnd:∀b,Bi (E.setL w l L) ((l,.dead)::objs) b→∃j p M,j≠l∧O j objs=some p∧E.loc j=some M∧p.has M∧M.b=b:=by
   rintro b⟨j,p,M,h1,h2,h3,h4⟩;rw[Ad]at h1;split at h1;·cases h1;exact h3.elim
   ·rename_i e;rw[Ax _ _ _ (eS e)]at h2;exact⟨j,p,M,eS e,h1,h2,h3,h4⟩
  rcases hb hk with⟨h1,h2⟩|h1;·refine⟨λhs=>g.ns K.b ⟨l,o,L,hl,hL,h1,h2.symm⟩ hs,λho=>?_⟩;obtain⟨j,p,M,k1,k2,k3,k4,k5⟩:=hnd _ ho;exact k1 (g.inj j l p o M L k2 hl k3 hL k4 h1 (k5.trans h2))
  ·refine⟨λhs=>by have h2:=g.sl _ hs;omega,λho=>?_⟩;obtain⟨j,p,M,k1,k2,k3,k4,k5⟩:=hnd _ ho;have :=g.own_lt ⟨j,p,M,k2,k3,k4,k5⟩;omega
 have ha:=U.adopt hp.1 (n:=n) (K:=K) (o:=o') (by rw[Ax _ _ _ Dy];exact hf) (ho _) GU;refine⟨_,rfl,A6 _ _ _ _,ha.1,ha.2 E objs [] hp.2 λhk=>?_⟩;rcases hb hk with⟨h1,h2⟩|h1;·exact .inr ⟨l,o,L,hl,hL,h1,h2.symm⟩
 ·exact .inl h1
end
section
def Ao(P:Program)(s:Sem Value)(E:AB)(objs:AA)(out:AT):Prop:=∃E' v,s.run P E.w=.ok v E'.w∧U P E' (edit objs out.ed)∧Ak E objs E' (edit objs out.ed) (moved out.ed)∧N P E' out.v v
def Qc(P:Program)(s:Sem Unit)(E:AB)(objs:AA)(out:AT):Prop:=∃E',s.run P E.w=.ok () E'.w∧U P E' (edit objs out.ed)∧Ak E objs E' (edit objs out.ed) (moved out.ed)
def BV(os objs:AA):Prop:=∀l o,O l os=some o→O l objs=some o
theorem U.get{P:Program}{E:AB}{os objs:AA}(g:U P E objs)(hs:BV os objs){l:Nat}{o:Obj}(h:O l os=some o):∃L,E.loc l=some L∧O l objs=some o∧AY P E L o:=by obtain⟨L,h1,h2⟩:=g.at_ l o (hs l o h);exact⟨L,h1,hs l o h,h2⟩
variable {P : Program} {τ : AK} {E : AB} {os objs : AA} {n : Nat}
theorem Ao.same{s:Sem Value}{v:Value}{a:V}{p:Option Prop}(g:U P E objs)(h:s.run P E.w=.ok v E.w)(r:N P E a v):Ao P s E objs ⟨p,a,none⟩:=⟨E,v,h,g,.refl _ _ _,r⟩
theorem Te{t:TypeId}{i:TypeInfo}(h:P.info? t=some i)(w:World):(typeInfo t).run P w=.ok i w:=by simp[typeInfo,h]
theorem EL{t:TypeId}{i:TypeInfo}(h:P.info? t=some i)(w:World):(sizeOf t).run P w=.ok i.size w:=by simp[sizeOf,Te h]
theorem Gx{t:TypeId}{i:TypeInfo}{z:Value}(h:P.info? t=some i)(hz:i.zero=some z)(w:World):(zeroValue t).run P w=.ok z w:=by simp[zeroValue,Te h,hz]
def Rb:TypeDesc→Bool|.struct _|.array _ _=>true|_=>false
theorem TI.Ok.desc{t:TypeId}{i:TI}(h:i.Ok P t):i.k.known=true→∃d,P.underlying t=some d∧Rb d=i.isAgg:=by
 have hk:=h.kind;obtain⟨k,size,bytes,zero,code⟩:=i;cases k<;>simp only[TI.isAgg]at hk⊢;case int k=>exact λ_=>⟨_,hk,rfl⟩
 case bool=>exact λ_=>⟨_,hk,rfl⟩
 case str=>exact λ_=>⟨_,hk,rfl⟩
 case sl=>exact λ_=>⟨_,hk,rfl⟩
 case arr=>exact λ_=>⟨_,hk.1,rfl⟩
 case st=>obtain⟨fs,h1,_⟩:=hk;exact λ_=>⟨_,h1,rfl⟩
 case ptr=>obtain⟨e,h1⟩:=hk;exact λ_=>⟨_,h1,rfl⟩
 case map=>exact λ_=>⟨_,hk.1,rfl⟩
 case fn=>obtain⟨_,_,_,h1⟩:=hk;exact λ_=>⟨_,h1,rfl⟩
 case other=>intro h;cases h
theorem Oy{t:TypeId}{d:TypeDesc}(h:P.underlying t=some d)(w:World):(isAgg t).run P w=.ok (Rb d) w:=by simp only[isAgg,eQ,dU h,eF];cases d<;>rfl
theorem UA{t:TypeId}{ti:TI}(ht:ti.Ok P t)(hk:ti.k.known=true)(w:World)(b off:Nat)(cs:List Value)(hl:cs.length=ti.size)(h:∀j u,cs[j]?=some u→w.cell? ⟨b,off+j,none⟩=some u)(ho:ti.isAgg=true∨cs.length=1):(loadVar t ⟨b,off,none⟩).run P w=.ok (if ti.isAgg then .agg cs.toArray else cs.getD 0 undef) w:=by
 obtain⟨d,hd,ha⟩:=ht.desc hk;obtain⟨info,z,hi,hs,_⟩:=ht.info;have hcells:=lT (P:=P) w ⟨b,off,none⟩ cs λj v hj=>by rw[fO];exact h j v hj
 cases hb:ti.isAgg with|true=>rw[hb]at ha;simp[loadVar,Oy hd,ha,EL hi,hs,←hl,hcells]|false=>rw[hb]at ha ho;have h1:cs.length=1:=ho.resolve_left (by simp);obtain⟨c,rfl⟩:=List.length_eq_one_iff.1 h1;have :=h 0 c (by simp);simp only[fZ]at this;simp[loadVar,eQ,Oy hd,ha,eF,this]
theorem US{agg:Bool}{cs:List V}{v:V}{vals:List Value}(h:Gm agg cs=some v)(r:AE P E cs vals):N P E v (if agg then .agg vals.toArray else vals.getD 0 undef)∧(agg=true∨vals.length=1):=by unfold Gm at h;cases agg with|true=>simp only[hP,gB]at h⊢;subst h;exact⟨.agg (by simpa using r.1) λj hj=>by simpa using r.2 j hj,.inl trivial⟩|false=>
 simp only[eW,gK]at h⊢;split at h;·cases h;exact⟨by simpa using r.2 0 (by simp),.inr (by simpa using r.1)⟩
 ·cases h
theorem Ka:∀{n:Nat}{l cs:List V},GC n l=some cs→cs=l.take n∧cs.length=n
 |0,l,cs,h=>by simp only[GC]at h;cases h;exact⟨by simp,rfl⟩|n+1,v::l,cs,h=>by
  simp only[GC]at h;split at h;·rename_i r hr;cases h;obtain⟨h1,h2⟩:=Ka hr;exact⟨by rw[jQ,←h1],by rw[dX,h2]⟩
  ·cases h|n+1,[],cs,h=>by simp[GC]at h
theorem G8:∀(n:Nat)(l:List V),Ei n l=l.drop n|0,l=>by simp[Ei]|n+1,_::l=>by rw[Ei,G8 n l,iA]|n+1,[]=>by simp[Ei]
theorem Fj{w:World}{b:Nat}{vals:Array Value}{t:TypeId}{fr:Nat×Nat}(h:w.heap[b]?=some (.cells vals t fr))(o:Nat):w.cell? ⟨b,o,none⟩=vals[o]?:=by simp[World.cell?,h]
theorem AE.at_cells{w:World}{b:Nat}{vals:Array Value}{t:TypeId}{fr:Nat×Nat}{cs:List V}(h:w.heap[b]?=some (.cells vals t fr))(r:AE P E cs vals.toList)(off n:Nat):AE P E ((cs.drop off).take n) ((vals.toList.drop off).take n)∧∀j u,((vals.toList.drop off).take n)[j]?=some u→w.cell? ⟨b,off+j,none⟩=some u:=by
 refine⟨(r.drop off).take n,λj u hj=>?_⟩;rw[Fj h];rw[eE]at hj;split at hj;·simpa using hj
 ·cases hj
theorem M5{L:AH}{cs:List V}(h:AY P E L (.box cs)):∃vals t,E.w.heap[L.b]?=some (.cells vals t (0,0))∧AE P E cs vals.toList:=by obtain⟨vals,t,h1,h2,h3⟩:=h;exact⟨vals,t,h1,by simpa using h2,λj hj=>by simpa[dQ,dM]using h3 j hj⟩
theorem Un{L:AH}{T:Ty}{xs:List T.den}(h:AY P E L (.row T xs)){i:Nat}(hi:i<xs.length):∃cs,Al E.w E.S T (xs.getD i T.dflt) cs∧∀j u,cs[j]?=some u→E.w.cell? ⟨L.b,i*T.size+j,none⟩=some u:=by
 obtain⟨_,_,_,e,cs,h1,h2⟩:=h;obtain⟨c,hc,hj⟩:=h1.get i xs[i] (dY hi);rcases h2 with⟨_,rfl⟩|⟨cur,_,h3,_,_,_,_,h4⟩;·simp at hi
 ·refine⟨c,by rw[dM,dY hi];exact hc,λj u hu=>?_⟩;rw[Fj h3];have :=hj j u hu;rw[←h4,eE]at this;split at this;·simpa using this
  ·cases this
theorem Lz{t:TypeId}{ti:TI}(ht:ti.Ok P t)(hk:ti.k.known=true)(g:U P E objs){b off:Nat}{cs:List V}{vals:List Value}{a:V}{p:Option Prop}(r:AE P E cs vals)(h:∀j u,vals[j]?=some u→E.w.cell? ⟨b,off+j,none⟩=some u)(hl:cs.length=ti.size)(ha:Gm ti.isAgg cs=some a):Ao P (Instr.loadAt t (.pointer (some ⟨b,off,none⟩))) E objs ⟨p,a,none⟩:=by obtain⟨r1,r2⟩:=US ha r;have :=UA ht hk E.w b off vals (r.1.trans hl) h r2;refine .same g (v:=if ti.isAgg then .agg vals.toArray else vals.getD 0 undef) ?_ (by split<;>simp_all);simp only[Instr.loadAt,Instr.sureAddr,eQ,fQ,eF,this]
theorem Io{l off:Nat}{c:Value}(r:N P E (.ref l off) c):∃L,E.loc l=some L∧c=.pointer (some ⟨L.b,off,none⟩):=by cases r with|ref h=>exact⟨_,h,rfl⟩
theorem Is{l i off:Nat}{c:Value}(r:N P E (.rref l i off) c):∃L,E.loc l=some L∧c=.pointer (some ⟨L.b,i*L.esz+off,none⟩):=by cases r with|rref h=>exact⟨_,h,rfl⟩
theorem DB{l:Nat}{c:Value}(r:N P E (.osl l) c):∃L,E.loc l=some L∧c=L.v:=by cases r with|osl h=>exact⟨_,h,rfl⟩
theorem Ez{l lo n:Nat}{c:Value}(r:N P E (.osp l lo n) c):∃L,E.loc l=some L∧L.Part lo n c:=by cases r with|osp h hp=>exact⟨_,h,hp⟩
theorem UF{l:Nat}{c:Value}(r:N P E (.map l) c):∃L,E.loc l=some L∧c=.map (some L.b):=by cases r with|map h=>exact⟨_,h,rfl⟩
theorem Qx{l n:Nat}{c:Value}(r:N P E (.bsl l n) c):∃L,E.loc l=some L∧c=.slice (some ⟨L.b,0,none⟩) n n:=by cases r with|bsl h=>exact⟨_,h,rfl⟩
theorem JR{cs:List V}{c:Value}(r:N P E (.er cs) c):∃b off vals,c=.pointer (some ⟨b,off,none⟩)∧E.S b∧AE P E cs vals∧∀j u,vals[j]?=some u→E.w.cell? ⟨b,off+j,none⟩=some u:=by cases r with|er f h1 h2 h3=>
 rename_i b off;refine⟨b,off,(List.range cs.length).map f,rfl,h1,⟨by simp,λj hj=>?_⟩,λj u hj=>?_⟩;·rw[dM (l:=List.map f _),fT,iR hj];exact h3 j hj
 ·rw[fT]at hj;rcases iJ j cs.length with hl|hl;·rw[iR hl]at hj;simp at hj;subst hj;exact h2 j hl
  ·rw[fM (by simpa using hl)]at hj;simp at hj
theorem aL{L:AH}{T:Ty}{xs:List (List T.den)}{v:V}{m:Nat}(h:AY P E L (.vrow T xs [v] m)):∃u,N P E v u∧E.w.cell? ⟨L.b,xs.length+0,none⟩=some u:=by
 obtain⟨h1,h2,h3,e,cs,h4,h5|⟨cur,h5,h6,h7,h8,h9,Au,CG,C7,DJ⟩⟩:=h;·have :=h5.2;simp at h3;omega
 ·refine⟨_,C7 0 (by simp),?_⟩;rw[Fj h6,dQ,eZ (by simp at h3;omega)];rfl
theorem Wy(hτ:Ah P τ){t:TypeId}{v:V}{out:AT}(h:NW τ os t v=some out)(hs:BV os objs)(ho:Ae out.ob)(g:U P E objs){c:Value}(r:N P E v c):Ao P (Instr.loadAt t c) E objs out:=by
 unfold NW at h;split at h;·cases h
 ·rename_i ti Ai;have ht:=hτ t ti Ai;split at h;·cases h
  ·rename_i hk;split at h;·
    split at h
    ·rename_i cs hcs;split at h
     ·rename_i ds h1;split at h;·rename_i a h2;cases h;obtain⟨rfl,h3⟩:=Ka h1;obtain⟨L,hL,_,hat⟩:=g.get hs hcs;obtain⟨K,hK,rfl⟩:=Io r;rw[hL]at hK;cases hK;obtain⟨vals,t',h4,h5⟩:=M5 hat;rw[G8]at h2 h3;obtain⟨h6,h7⟩:=h5.at_cells h4 _ _;exact Lz ht hk g h6 h7 h3 h2
      ·cases h
     ·cases h
    ·cases h
   ·rename_i cs;split at h
    ·rename_i ds h1;split at h
     ·rename_i a h2;cases h;obtain⟨rfl,h3⟩:=Ka h1;obtain⟨b,off,vals,rfl,_,h4,h5⟩:=JR r;refine Lz ht hk g (h4.take _) (λj u hj=>?_) h3 h2;rw[eE]at hj;split at hj;·exact h5 j u hj
      ·cases hj
     ·cases h
    ·cases h
   ·rename_i l i off;split at h
    ·rename_i T xs hcs;split at h
     ·rename_i ds h1;split at h
      ·rename_i a h2;cases h;obtain⟨rfl,h3⟩:=Ka h1;obtain⟨L,hL,_,hat⟩:=g.get hs hcs;obtain⟨K,hK,rfl⟩:=Is r;rw[hL]at hK;cases hK;obtain⟨cs,h4,h5⟩:=Un hat (show i<xs.length from ho);rw[hat.1];rw[G8]at h2 h3;refine Lz ht hk g (((GP h4).drop off).take _) (λj u hj=>?_) h3 h2;rw[eE]at hj;split at hj;·rw[lG];exact h5 _ u (by simpa using hj)
       ·cases hj
      ·cases h
     ·cases h
    ·rename_i T xs s m hcs;split at h
     ·rename_i v;split at h
      ·rename_i hb;simp only[eP]at hb;split at h
       ·rename_i a h2;cases h;obtain⟨L,hL,_,hat⟩:=g.get hs hcs;obtain⟨K,hK,rfl⟩:=Is r;rw[hL]at hK;cases hK;have hi:i=xs.length:=ho;obtain⟨u,h3,h4⟩:=aL hat;rw[dJ hb.1,hat.1,hN,fZ,hi];refine Lz (cs:=[v]) (vals:=[u]) ht hk g ⟨rfl,λj hj=>?_⟩ (λj w hj=>?_) (dJ hb.2).symm h2
        ·obtain rfl:j=0:=by simp at hj;exact hj
         exact h3
        ·have OS:j=0:=by have :=(List.getElem?_eq_some_iff.1 hj).1;simp at this;exact this
         subst OS;cases hj;exact h4
       ·cases h
      ·cases h
     ·cases h
    ·cases h
   ·cases h
theorem LR(w:World)(g:Nat)(cs:Array Value):w.grownBy (w.setRow g cs) (some g):=⟨rfl,rfl,rfl,by simp,λk _ hk=>setRow_other w g k _ λe=>hk (by rw[e])⟩
theorem Zs{cs new cs':List V}{off:Nat}(h:putCells cs off new=some cs'):off+new.length≤cs.length∧cs'=cs.take off++new++cs.drop (off+new.length):=by
 unfold putCells at h;split at h;·rename_i hb;cases h;exact⟨eJ hb,by rw[G8,gA]⟩
 ·cases h
theorem AE.put{cs new cs':List V}{vals vs:List Value}{off:Nat}(h:putCells cs off new=some cs')(r:AE P E cs vals)(rn:AE P E new vs):AE P E cs' (vals.take off++vs++vals.drop (off+vs.length))∧off+vs.length≤vals.length:=by obtain⟨h1,rfl⟩:=Zs h;rw[rn.1,r.1];exact⟨((r.take off).append rn).append (r.drop _),h1⟩
theorem MV{t:TypeId}{ti:TI}(ht:ti.Ok P t)(w:World)(b off:Nat)(e:TypeId)(cur:Array Value)(v:Value)(hl:v.cells.toList.length=ti.size)(hb:w.heap[b]?=some (.cells cur e (0,0)))(BZ:off+v.cells.toList.length≤cur.size)(h1:∀u∈v.cells.toList,u.oneCell'=true):(storeVar t ⟨b,off,none⟩ v).run P w=.ok () (w.setRow b (cur.toList.take off++v.cells.toList++cur.toList.drop (off+v.cells.toList.length)).toArray):=by
 obtain⟨info,z,hi,hs,_⟩:=ht.info;have BN:=iG P b off e v.cells.toList 0 cur w hb (by simpa using BZ) h1;simp only[fZ]at BN;have :v.cells.size=ti.size:=by simpa using hl
 simp[storeVar,EL hi,hs,this,BN]
theorem VH{T:Ty}:∀{n:Nat}{new:List V}{ys:List T.den}{vs:List Value},Iy T n new=some ys→AE P E new vs→Aa E.w E.S T ys vs∧ys.length=n
 |0,[],ys,vs,h,r=>by simp only[Iy,gB]at h;subst h;exact⟨dZ r.1,rfl⟩|0,_::_,ys,vs,h,r=>by simp[Iy]at h|n+1,new,ys,vs,h,r=>by
  unfold Iy at h;split at h
  ·rename_i x hx;split at h
   ·rename_i l hl;split at h;·cases h;obtain⟨h1,h2⟩:=VH hl (r.drop T.size);exact⟨⟨vs.take T.size,vs.drop T.size,(gD _ _).symm,D1 hx (r.take T.size),h1⟩,by rw[dX,h2]⟩
    ·cases h
   ·cases h
  ·cases h
theorem Pw{l:Nat}{L:AH}{T:Ty}{xs ys:List T.den}{cur':List Value}{mv:Bool}(g:U P E objs)(hl:O l objs=some (.row T xs))(hL:E.loc l=some L)(hat:AY P E L (.row T xs))(CU:0<L.cap)(CW:ys.length≤L.cap)(EV:mv=false→ys.length=xs.length)(hc:Aa E.w E.S T ys (cur'.take (ys.length*T.size)))(hlen:cur'.length=L.cap*T.size):U P (E.setL (E.w.setRow L.b cur'.toArray) l {L with len:=ys.length}) (edit objs (some (l,.row T ys,mv)))∧Ak E objs (E.setL (E.w.setRow L.b cur'.toArray) l {L with len:=ys.length}) (edit objs (some (l,.row T ys,mv))) (moved (some (l,.row T ys,mv))):=by
 obtain⟨h1,h2,h3,e,cs,h4,h5⟩:=hat;rcases h5 with h5|⟨cur,h5,h6,h7,h8,h9,Au,CG⟩;·omega
 ·have Bv:(Obj.row T xs).has L:=by simp only[Obj.has];omega
  have hgr:=LR E.w L.b cur'.toArray;have BW:∀b,some L.b=some b→(Obj.row T xs).has L∧b=L.b:=λb e=>⟨Bv,by cases e;rfl⟩;have hL':mv=false→({L with len:=ys.length}:AH)=L:=λe=>by rw[EV e,←h3]
  have hS:∀b,E.S b→E.S b∧(E.w.setRow L.b cur'.toArray).heap[b]?=E.w.heap[b]?:=λb hs=>⟨hs,hgr.block b (g.sl b hs) λe=>by cases e;exact g.ns L.b ⟨l,_,L,hl,hL,Bv,rfl⟩ hs⟩;refine U.put g hl hL hgr BW hL' ⟨h1,h2,rfl,e,_,hc.mono hS,.inr ⟨_,h5,kV _ _ _ _ _ _ h6,CW,CU,h9,?_,by simp⟩⟩ λ_=>.inl ⟨Bv,rfl⟩;simpa using hlen
theorem W6(hτ:Ah P τ){t:TypeId}{a x:V}{out:AT}(h:Nf τ os t a x=some out)(hs:BV os objs)(ho:Ae out.ob)(g:U P E objs){c d:Value}(ra:N P E a c)(rx:N P E x d):Qc P (Instr.storeAt t c d) E objs out∧out.v=.tup []:=by
 unfold Nf at h;split at h;·cases h
 ·rename_i ti Ai;have ht:=hτ t ti Ai;split at h;·cases h
  ·rename_i new BJ;obtain⟨rn,Fv⟩:=MQ BJ rx;split at h;·cases h
   ·rename_i AS;have hl:d.cells.toList.length=ti.size:=rn.1.trans (dJ AS);split at h
    ·rename_i l off;split at h
     ·rename_i cs hcs;split at h;·rename_i cs' h1;cases h;obtain⟨L,hL,AI,hat⟩:=g.get hs hcs;obtain⟨K,hK,rfl⟩:=Io ra;rw[hL]at hK;cases hK;obtain⟨vals,t',h4,h5⟩:=M5 hat;obtain⟨h6,h7⟩:=h5.put h1 rn;have hrun:=MV ht E.w _ off t' vals d hl h4 (by simpa using h7) Fv;have hgr:=LR E.w L.b (vals.toList.take off++d.cells.toList++vals.toList.drop (off+d.cells.toList.length)).toArray;have BW:∀b,some L.b=some b→(Obj.box cs).has L∧b=L.b:=λb e=>⟨trivial,by cases e;rfl⟩;have hx:=Hl g (M:=[]) AI hL hgr BW λ_=>rfl;have h8:=h6.mono hx;have BJ:=U.put g (mv:=false) (o':=.box cs') AI hL hgr BW (λ_=>rfl) ⟨_,t',kV _ _ _ _ _ _ h4,by simpa using h8.1,λj hj=>by simpa[dQ,dM]using h8.2 j hj⟩ λ_=>.inl ⟨trivial,rfl⟩;exact⟨⟨_,by simp only[Instr.storeAt,Instr.sureAddr,eQ,fQ,eF];exact hrun,BJ.1,BJ.2⟩,rfl⟩
      ·cases h
     ·cases h
    ·rename_i l i off;split at h
     ·rename_i T xs hcs;obtain⟨L,hL,AI,hat⟩:=g.get hs hcs;obtain⟨K,hK,rfl⟩:=Is ra;rw[hL]at hK;cases hK;have FG:=hat;obtain⟨CH,AW,hlen,e,cs,h9,Au⟩:=hat;split at h;·
       rename_i n e0 hk;split at h
       ·rename_i Jn;simp only[eP]at Jn;obtain⟨h0,XZ⟩:=Jn;obtain rfl:=dJ h0;obtain rfl:=dJ XZ;split at h
        ·rename_i ys h1;cases h;obtain⟨h2,h3⟩:=VH h1 rn;have hn:n=xs.length:=ho;have YP:0<n:=by have :=ht.kind;rw[hk]at this;obtain⟨_,_,_,_,_,_,_,h,_⟩:=this;exact h
         rcases Au with⟨_,rfl⟩|⟨cur,B4,Bt,Ex,FS,Ie,FT,FU⟩;·simp at hn;omega
         ·have N1:=h2.length;rw[h3,hn]at N1;have CU:xs.length*T.size≤L.cap*T.size:=eT _ Ex;have BZ:0+d.cells.toList.length≤cur.size:=by rw[FT,N1];omega
          have hrun:=MV ht E.w _ 0 e cur d hl Bt BZ Fv;have BJ:=Pw (mv:=false) (ys:=ys) (cur':=cur.toList.take 0++d.cells.toList++cur.toList.drop (0+d.cells.toList.length)) g AI hL FG FS (by omega) λ_=>by omega (by rw[h3,hn,jV,hG,←N1,jU];exact h2) (by simp only[dW,eM,fG,eG]at BZ⊢;omega);exact⟨⟨_,by simp only[Instr.storeAt,Instr.sureAddr,eQ,fQ,eF,jL,fZ]at hrun⊢;exact hrun,BJ.1,BJ.2⟩,rfl⟩
        ·cases h
       ·cases h
      ·split at h
       ·rename_i cs' h1;split at h
        ·rename_i y h2;cases h;have hi:i<xs.length:=ho;obtain⟨ce,h4,h5⟩:=Un FG hi;obtain⟨h6,h7⟩:=(GP h4).put h1 rn;have h8:=D1 h2 h6;have cQ:=h4.length;rcases Au with⟨_,rfl⟩|⟨cur,B4,Bt,Ex,FS,Ie,FT,FU⟩;·simp at hi
         ·have hmul:i*T.size+T.size≤xs.length*T.size:=by rw[←fL];exact eT _ hi
          have CU:xs.length*T.size≤L.cap*T.size:=eT _ Ex;have BZ:i*T.size+off+d.cells.toList.length≤cur.size:=by rw[FT];omega
          have hrun:=MV ht E.w _ (i*T.size+off) e cur d hl Bt BZ Fv;have Fy:=EM (A:=cur.toList) (vs:=d.cells.toList) (o:=i*T.size+off) (by simpa using BZ);have Yi:=EM (A:=ce) (vs:=d.cells.toList) (o:=off) h7;have CG:Aa E.w E.S T (xs.set i y) ((cur.toList.take (i*T.size+off)++d.cells.toList++cur.toList.drop (i*T.size+off+d.cells.toList.length)).take (xs.length*T.size)):=by
           refine Aa.of_get (by simp only[eM,dW,fG,List.length_set,eG];omega) λi' x hx'=>?_;rw[List.getElem?_set]at hx';split at hx'
           ·rename_i CV;subst CV;have Yw:y=x:=by simpa[hi]using hx'
            subst Yw;refine⟨_,h8,λj u hu=>?_⟩;have FM:j<T.size:=by have :=(List.getElem?_eq_some_iff.1 hu).1;have :=h8.length;omega
            rw[eE,dO (by omega),Fy];rw[Yi]at hu;by_cases c1:j<off;·rw[dO c1]at hu;rw[dO (by omega)];have :=h5 j u hu;rw[Fj Bt]at this;simpa using this
            ·rw[dK c1]at hu;rw[dK (by omega)];by_cases c2:j<off+d.cells.toList.length;·rw[dO c2]at hu;rw[dO (by omega),show i*T.size+j-(i*T.size+off)=j-off from by omega];exact hu
             ·rw[dK c2]at hu;rw[dK (by omega)];have :=h5 j u hu;rw[Fj Bt]at this;simpa using this
           ·rename_i CV;obtain⟨c,hc,hj⟩:=h9.get i' x hx';have hi':i'<xs.length:=(List.getElem?_eq_some_iff.1 hx').1;have hcl:=hc.length;refine⟨c,hc,λj u hu=>?_⟩;have FM:j<T.size:=by have :=(List.getElem?_eq_some_iff.1 hu).1;omega
            have hm':i'*T.size+T.size≤xs.length*T.size:=by rw[←fL];exact eT _ hi'
            have AU:i'*T.size+T.size≤i*T.size∨i*T.size+T.size≤i'*T.size:=by
             rcases iJ i' i with AM|EU;·left;rw[←fL];exact eT _ AM
             ·right;rw[←fL];exact eT _ (by omega)
            have C7:=hj j u hu;rw[←FU,eE,dO (by omega)]at C7;rw[eE,dO (by omega),Fy];rcases AU with AU|AU;·rw[dO (by omega)];exact C7
            ·rw[dK (by omega),dK (by omega)];exact C7
          have BJ:=Pw (mv:=false) (ys:=xs.set i y) (cur':=cur.toList.take (i*T.size+off)++d.cells.toList++cur.toList.drop (i*T.size+off+d.cells.toList.length)) g AI hL FG FS (by simpa using Ex) λ_=>by simp (by simpa using CG) (by simp only[dW,eM,fG,eG]at BZ⊢;omega);exact⟨⟨_,by rw[CH];simp only[Instr.storeAt,Instr.sureAddr,eQ,fQ,eF];exact hrun,BJ.1,BJ.2⟩,rfl⟩
        ·cases h
       ·cases h
     ·rename_i T xs s m hcs;split at h
      ·rename_i v0;split at h
       ·rename_i v;split at h
        ·rename_i Jv;cases h;have Jv:=dJ Jv;subst Jv;have hi:i=xs.length:=ho;subst hi;obtain⟨L,hL,AI,hat⟩:=g.get hs hcs;obtain⟨K,hK,rfl⟩:=Is ra;rw[hL]at hK;cases hK;obtain⟨CH,h2,hlen,e,cs,h4,h5|⟨cur,h5,h6,h7,h8,h9,Au,CG,C7,DJ⟩⟩:=hat;·have :=h5.2;simp at hlen;omega
         ·have Lg:d.cells.toList.length=1:=rn.1;have Dz:d.cells.size=1:=by simpa using Lg
          have AM:xs.length<cur.size:=by simp at hlen;omega
          have hrun:=MV ht E.w _ xs.length e cur d hl h6 (by omega) Fv;have hgr:=LR E.w L.b (cur.toList.take xs.length++d.cells.toList++cur.toList.drop (xs.length+d.cells.toList.length)).toArray;have Bv:(Obj.vrow T xs [v0] m).has L:=by simp only[Obj.has];omega
          have BW:∀b,some L.b=some b→(Obj.vrow T xs [v0] m).has L∧b=L.b:=λb e=>⟨Bv,by cases e;rfl⟩;have hx:=Hl g (M:=[]) AI hL hgr BW λ_=>rfl;have Fy:=EM (A:=cur.toList) (vs:=d.cells.toList) (o:=xs.length) (by simp;omega);have BJ:=U.put g (mv:=false) (o':=.vrow T xs [v] m) AI hL hgr BW (λ_=>rfl) ⟨CH,h2,hlen,e,cs,h4.mono hx.S,.inr ⟨_,h5,kV _ _ _ _ _ _ h6,h7,h8,h9,by simp only[gI,dW,eM,fG,eG];omega,by
           rw[←CG];apply fP;intro j;rw[eE,eE];split;·rename_i hj;rw[Fy,dO hj]
           ·rfl,λj hj=>by
           have OS:j=0:=by simp at hj;exact hj
           subst OS;have h3:=(rn.2 0 (by simp)).mono hx;rw[dQ,←fD,Fy,dK (by omega),dO (by omega)];simpa[dM]using h3,λj hj hj2=>by have hj:xs.length+1≤j:=hj;rw[←fD,Fy,dK (by omega),dK (by omega),fD];exact DJ j hj hj2⟩⟩ λ_=>.inl ⟨Bv,rfl⟩;exact⟨⟨_,by rw[CH];simp only[Instr.storeAt,Instr.sureAddr,eQ,fQ,eF,hN,fZ];exact hrun,BJ.1,BJ.2⟩,rfl⟩
        ·cases h
       ·cases h
      ·cases h
     ·cases h
    ·cases h
theorem Wu(hτ:Ah P τ){s:TypeId}{v:V}{f:Nat}{out:AT}(h:NS τ os s v f=some out)(g:U P E objs){c:Value}(r:N P E v c):Ao P (Instr.fieldAt s c f) E objs out:=by
 unfold NS at h;split at h
 ·rename_i offs size bytes zero code hs;have ht:=(hτ s _ hs).kind;obtain⟨fs,h1,h2,h3⟩:=ht;split at h
  ·rename_i o sz ho';have IY:=h3 (o,sz) (gH ho');have ON:∃fl,fs[f]?=some fl∧fl.offset=o∧P.cellsOf fl.type=sz:=by rw[←h2]at ho';simp only[fT,eL,gL]at ho';obtain⟨fl,h4,h5,h6⟩:=ho';exact⟨fl,by simpa using h4,h5,h6⟩
   obtain⟨fl,hf,Jv,hcs⟩:=ON;obtain⟨fi,IT,hfz⟩:∃i,P.info? fl.type=some i∧i.size≠0:=by cases hq:P.info? fl.type with|none=>simp[Program.cellsOf,hq]at hcs;exact absurd hcs.symm IY|some i=>simp[Program.cellsOf,hq]at hcs;exact⟨i,rfl,λe=>IY (by simpa[←hcs]using e)⟩
   have hrun:∀b off,(Instr.fieldAt s (.pointer (some ⟨b,off,none⟩)) f).run P E.w=.ok (.pointer (some ⟨b,off+o,none⟩)) E.w:=by intro b off;simp[Instr.fieldAt,dU h1,hf,Instr.sureAddr,fieldPlace,EL IT,hfz,fO,Jv]
   split at h;·cases h;obtain⟨L,hL,rfl⟩:=Io r;exact .same g (hrun _ _) (.ref hL)
   ·cases h;cases r with|er fc h4 h5 h6=>
    rename_i cs b off;refine .same g (hrun _ _) ?_;rw[G8];refine .er (λj=>fc (o+j)) h4 (λj hj=>?_) λj hj=>?_;·simp only[fG]at hj;rw[lG];exact h5 _ (by omega)
    ·simp only[fG]at hj;have :=h6 (o+j) (by omega);simpa[dM]using this
   ·cases h;obtain⟨L,hL,rfl⟩:=Is r;refine .same g (hrun _ _) ?_;rw[lG];exact .rref hL
   ·cases h
  ·cases h
 ·cases h
theorem Hr{T:Ty}{l:List T.den}{c:Value}(r:N P E (.d (.sl T) l) c):Al E.w E.S (.sl T) l [c]:=by cases r with|d h=>exact h
theorem WB{T:Ty}{x:T.den}{b off:Nat}{cs:List Value}(hb:E.S b)(h:Al E.w E.S T x cs)(hc:∀j u,cs[j]?=some u→E.w.cell? ⟨b,off+j,none⟩=some u):N P E (.er (DI T x)) (.pointer (some ⟨b,off,none⟩)):=by
 have r:=GP (P:=P) h;refine .er (λj=>cs.getD j undef) hb (λj hj=>?_) λj hj=>r.2 j hj;have hj':j<cs.length:=by rw[r.1];exact hj
 exact hc j _ (by simp[dM,dY hj'])
theorem J7{t e:TypeId}{ei:TI}(ht:P.underlying t=some (.slice e))(hei:ei.Ok P e){b off n cap:Nat}{k:IntKind}{i:Int}(w:World)(h0:0≤i)(h1:i<(n:Int)):(Instr.indexAt t (.slice (some ⟨b,off,none⟩) n cap) (.int k i)).run P w=.ok (.pointer (some ⟨b,off+i.toNat*ei.size,none⟩)) w:=by obtain⟨info,z,hi,hs,_⟩:=hei.info;simp[Instr.indexAt,asIntOf,dU ht,h0,h1,EL hi,hs,fO]
theorem MI{L:AH}{T:Ty}{xs:List T.den}(h:AY P E L (.row T xs)){lo n:Nat}(h1:lo+n≤xs.length)(h2:0<n){c:Value}(hp:L.Part lo n c):c=.slice (some ⟨L.b,lo*T.size,none⟩) n (L.cap-lo):=by
 obtain⟨a,rfl,ha⟩:=hp;obtain⟨CH,AW,hlen,e',cs,h9,Au⟩:=h;rcases Au with⟨_,rfl⟩|⟨cur,B4,Bt,Ex,_⟩;·simp at h1;omega
 ·have :L.cap≠lo:=by omega
  rw[ha this];simp[B4,CH,fO]
theorem Wv(hτ:Ah P τ){t:TypeId}{x ix:V}{out:AT}(h:NT τ os t x ix=some out)(hs:BV os objs)(ho:Ae out.ob)(g:U P E objs){c d:Value}(rx:N P E x c)(ri:N P E ix d):Ao P (Instr.indexAt t c d) E objs out:=by
 unfold NT at h;split at h
 ·rename_i e size bytes zero code Ai;have ht:P.underlying t=some (.slice e):=(hτ t _ Ai).kind;split at h
  ·rename_i k i0;obtain⟨i,hi0⟩:∃i:Int,i=i0:=⟨i0,rfl⟩;subst hi0;have hd:=ri.int_inv;subst hd;split at h
   ·rename_i ei hei;have hei:=hτ e ei hei;split at h
    ·rename_i T l;split at h
     ·rename_i AS;have AS:=dJ AS;cases h;obtain⟨h0,h1⟩:0≤i∧i<(List.length (α:=T.den) l:Int):=ho;obtain⟨a,cap,hc,CU,hl⟩:=Hr rx;have hc':c=.slice a (List.length (α:=T.den) l) cap:=by simpa using hc
      subst hc';have AM:i.toNat<List.length (α:=T.den) l:=by omega
      obtain⟨b,off,rfl,hS,hx⟩:=hl λe=>by rw[e]at AM;simp at AM
      obtain⟨cs,h2,h3⟩:=hx i.toNat (List.getD (α:=T.den) l i.toNat T.dflt) (by rw[dM,dY AM];rfl);refine .same g (J7 ht hei E.w h0 h1) ?_;rw[←AS];exact WB hS h2 h3
     ·cases h
    ·rename_i l;split at h
     ·rename_i T xs hcs;split at h
      ·rename_i AS;have AS:=dJ AS;cases h;obtain⟨h0,h1⟩:0≤i∧i<(xs.length:Int):=ho;obtain⟨L,hL,_,hat⟩:=g.get hs hcs;obtain⟨K,hK,rfl⟩:=DB rx;rw[hL]at hK;cases hK;obtain⟨CH,AW,hlen,e',cs,h9,Au⟩:=id hat;rcases Au with⟨_,rfl⟩|⟨cur,B4,Bt,_⟩;·simp at h1;omega
       ·unfold AH.v;rw[B4,hlen];refine .same g (J7 ht hei E.w h0 h1) ?_;rw[fE,←AS,←CH];exact .rref hL
      ·cases h
     ·rename_i T xs s m hcs;split at h
      ·rename_i AS;have AS:=dJ AS;split at h;·cases h
       ·rename_i v vs;cases h;obtain⟨h0,h1⟩:0≤i∧i<((xs.length+1+m:Nat):Int):=ho;obtain⟨L,hL,_,hat⟩:=g.get hs hcs;obtain⟨K,hK,rfl⟩:=DB rx;rw[hL]at hK;cases hK;obtain⟨CH,Dz,hlen,e',cs,h9,Au⟩:=id hat;have hlen:L.len=xs.length+1+m:=by rw[hlen];simp only[dX]at Dz⊢;omega
        rcases Au with⟨_,Au⟩|⟨cur,B4,Bt,_⟩;·omega
        ·unfold AH.v;rw[B4,hlen];refine .same g (J7 ht hei E.w h0 h1) ?_;rw[fE,AS,←CH];exact .rref hL
      ·cases h
     ·cases h
    ·rename_i l lo m;split at h
     ·rename_i T xs hcs;split at h;·rename_i AS;have AS:=dJ AS;cases h;obtain⟨h0,h1,h2⟩:0≤i∧i<(m:Int)∧lo+m≤xs.length:=ho;obtain⟨L,hL,_,hat⟩:=g.get hs hcs;obtain⟨K,hK,hp⟩:=Ez rx;rw[hL]at hK;cases hK;rw[MI hat h2 (by omega) hp];refine .same g (J7 ht hei E.w h0 h1) ?_;rw[←AS,←gO,←hat.1];exact .rref hL
      ·cases h
     ·cases h
    ·rename_i l m;split at h
     ·rename_i j;split at h;·rename_i hb;simp only[eP]at hb;cases h;obtain⟨L,hL,rfl⟩:=Qx rx;have AM:j<m:=gF (mJ j) (eJ hb.1);refine .same g (J7 ht hei E.w (Int.natCast_nonneg j) (by simpa using Int.ofNat_lt.2 AM)) ?_;rw[dJ hb.2];simpa using N.ref hL
      ·cases h
     ·cases h
    ·split at h;·cases h;exact ho.elim
     ·cases h
    ·cases h
   ·cases h
  ·cases h
 ·rename_i m e size bytes zero code Ai;have ht:P.underlying t=some (.array m e):=(hτ t _ Ai).kind.1;split at h
  ·rename_i k i0;obtain⟨i,hi0⟩:∃i:Int,i=i0:=⟨i0,rfl⟩;subst hi0;have hd:=ri.int_inv;subst hd;split at h
   ·rename_i ei hei;have hei:=hτ e ei hei;split at h
    ·rename_i l;split at h
     ·rename_i T xs hcs;split at h
      ·rename_i AS;have AS:=dJ AS;cases h;obtain⟨h0,h1⟩:0≤i∧i<(m:Int):=ho;obtain⟨L,hL,_,hat⟩:=g.get hs hcs;obtain⟨K,hK,rfl⟩:=Is rx;rw[hL]at hK;cases hK;obtain⟨info,z,hi,hs',_⟩:=hei.info;refine .same (v:=.pointer (some ⟨L.b,i.toNat*T.size,none⟩)) g ?_ ?_;·simp[Instr.indexAt,asIntOf,dU ht,h0,h1,EL hi,hs',fO,Instr.sureAddr,AS]
       ·rw[←hat.1];exact .rref hL
      ·cases h
     ·cases h
    ·cases h
   ·cases h
  ·cases h
 ·cases h
end
section
variable {P : Program} {τ : AK} {E : AB} {os objs : AA} {n : Nat}
theorem JS{k:IntKind}{n:Int}(h:AD k n):k.wrap n=n:=by
 cases k;·exact IntWalk.i8_in n h
 ·exact IntWalk.i16_in n h
 ·exact IntWalk.i32_in n h
 ·exact IntWalk.i64_in n h
 ·exact IntWalk.u8_in n h
 ·exact IntWalk.u16_in n h
 ·exact IntWalk.u32_in n h
 ·exact IntWalk.u64_in n h
theorem Kh{k:IntKind}{n:Int}(h:Ae (wr k n).ob):∃c,c=Value.int k (k.wrap n)∧∀E,N P E (wr k n).v c:=by
 refine⟨_,rfl,λE=>?_⟩;unfold wr at h⊢;split;·rename_i hs;simp only[hs]at h;rw[JS h];exact .mk_int _ _
 ·exact .mk_int _ _
theorem bX{k:IntKind}{p:Prop}{n:Int}(h:Ae (I1 k p n).ob):p∧∃c,c=Value.int k (k.wrap n)∧∀E,N P E (I1 k p n).v c:=by
 unfold I1 at h⊢;split;·rename_i hs;simp only[hs]at h;exact⟨h.1,_,rfl,λE=>by rw[JS h.2];exact .mk_int _ _⟩
 ·rename_i hs;simp only[hs]at h;exact⟨h,_,rfl,λE=>.mk_int _ _⟩
theorem bV{wm:Bool}{k:IntKind}{n:Int}(h:Ae (Kg wm k n).ob):∃c,c=Value.int k (k.wrap n)∧∀E,N P E (Kg wm k n).v c:=by cases wm with|true=>exact⟨_,rfl,λE=>.mk_int _ _⟩|false=>exact Kh h
theorem bU(wm:Bool)(k:IntKind)(n:Int):(Kg wm k n).ed=none:=by cases wm<;>(simp only[Kg];try unfold wr;try split)<;>rfl
theorem Md(k:IntKind)(n:Int):(wr k n).ed=none:=by unfold wr;split<;>rfl
theorem bW(k:IntKind)(p:Prop)(n:Int):(I1 k p n).ed=none:=by unfold I1;split<;>rfl
theorem Ao.same'{s:Sem Value}{v:Value}{out:AT}(g:U P E objs)(he:out.ed=none)(h:s.run P E.w=.ok v E.w)(r:N P E out.v v):Ao P s E objs out:=by obtain⟨ob,a,ed⟩:=out;cases he;exact .same g h r
theorem Ww{wm:Bool}{op:BinOp}{k:IntKind}{a b:Int}{r:AT}(h:NU wm op k a b=some r)(ho:Ae r.ob)(xt:TypeId)(w:World)(hs:op≠.shl∧op≠.shr):r.ed=none∧∃c,(binOp op xt (.int k a) (.int k b)).run P w=.ok c w∧∀E,N P E r.v c:=by
 cases op<;>simp only[NU,gB,reduceCtorEq]at h<;>try subst h
 case add=>obtain⟨c,rfl,hc⟩:=bV (P:=P) ho;exact⟨bU _ _ _,_,by simp[binOp,Op.intArith],hc⟩
 case sub=>obtain⟨c,rfl,hc⟩:=Kh (P:=P) ho;exact⟨Md _ _,_,by simp[binOp,Op.intArith],hc⟩
 case mul=>obtain⟨c,rfl,hc⟩:=Kh (P:=P) ho;exact⟨Md _ _,_,by simp[binOp,Op.intArith],hc⟩
 case quo=>obtain⟨hb,c,rfl,hc⟩:=bX (P:=P) ho;exact⟨bW _ _ _,_,by simp[binOp,Op.intDiv,hb],hc⟩
 case rem=>exact⟨rfl,_,by simp[binOp,Op.intDiv,show b≠0 from ho],λE=>.mk_int _ _⟩
 case eql=>exact⟨rfl,_,by simp[binOp,Op.intCmp],λE=>.mk_bool _⟩
 case neq=>exact⟨rfl,_,by simp[binOp,Op.intCmp],λE=>.mk_bool _⟩
 case lss=>exact⟨rfl,_,by simp[binOp,Op.intCmp],λE=>.mk_bool _⟩
 case leq=>exact⟨rfl,_,by simp[binOp,Op.intCmp],λE=>.mk_bool _⟩
 case gtr=>exact⟨rfl,.bool (decide (b<a)),by simp[binOp,Op.intCmp],λE=>.mk_bool _⟩
 case geq=>exact⟨rfl,.bool (decide (b≤a)),by simp[binOp,Op.intCmp],λE=>.mk_bool _⟩
 case and=>exact⟨rfl,_,by simp[binOp,Op.intBits],λE=>.mk_int _ _⟩
 case or=>exact⟨rfl,_,by simp[binOp,Op.intBits],λE=>.mk_int _ _⟩
theorem IC(op:BinOp)(t:TypeId)(x y:Operand){a b:Value}(ha:a.oneCell'=true)(hn:a≠.nilIface)(w:World):(eqGuard op t x y a b).run P w=.ok () w:=by unfold eqGuard;cases op<;>(first|(simp;done)|(cases a<;>first|(simp[Value.oneCell']at ha;done)|(exact absurd rfl hn)|(simp;done)))
theorem Ni(op:BinOp)(t:TypeId)(x y:Operand)(k:IntKind)(a:Int)(b:Value)(w:World):(eqGuard op t x y (.int k a) b).run P w=.ok () w:=IC op t x y rfl (by simp) w
theorem Nk{t:TypeId}{x y:Value}{w:World}{r:Result Bool}(h:∀d,(Op.equalIn (d+1) t x y).run P w=r):(Op.equal t x y).run P w=r:=h 9999
theorem Rq{t:TypeId}(h:P.underlying t=some .bool)(a b:Bool)(w:World):(Op.equal t (.bool a) (.bool b)).run P w=.ok (a==b) w:=Nk λd=>by simp only[Op.equalIn,eQ,dU h,eF,fQ]
theorem XC{t e:TypeId}(h:P.underlying t=some (.pointer e))(q:Option Addr)(w:World):(Op.equal t (.pointer q) (.pointer none)).run P w=.ok q.isNone w:=Nk λd=>by cases q<;>simp only[Op.equalIn,eQ,dU h,eF,fQ,Option.isNone]
theorem M4{t:TypeId}{x y:Value}{b:Bool}{w:World}(h:(Op.equal t x y).run P w=.ok b w)(hs:(∃a c,x=.bool a∧y=.bool c)∨∃a c,x=.pointer a∧y=.pointer c):(binOp .eql t x y).run P w=.ok (.bool b) w∧(binOp .neq t x y).run P w=.ok (.bool !b) w:=by rcases hs with⟨a,c,rfl,rfl⟩|⟨a,c,rfl,rfl⟩<;>simp only[binOp,eQ,h,eF,fQ,and_self]
theorem Wm(hτ:Ah P τ){op:BinOp}{xt:TypeId}{ox oy:Operand}{x y:V}{out:AT}(h:NK τ op xt x y=some out)(ho:Ae out.ob)(g:U P E objs){c d:Value}(rx:N P E x c)(ry:N P E y d):Ao P (do eqGuard op xt ox oy c d;binOp op xt c d) E objs out:=by
 unfold NK at h;split at h
 ·rename_i k a0;obtain⟨a,Eo⟩:∃a:Int,a=a0:=⟨a0,rfl⟩;subst Eo;have hc:=rx.int_inv;subst hc;split at h
  ·rename_i k' b0;obtain⟨b,HN⟩:∃b:Int,b=b0:=⟨b0,rfl⟩;subst HN;have hd:=ry.int_inv;subst hd;split at h;·cases h;have ho:0≤b:=ho;exact .same g (v:=.int k (k.wrap (a*2^min b.toNat k.bits))) (by have hb:¬(b:Int)<0:=Int.not_lt.mpr ho;simp[Ni,binOp,Op.shift,hb]) (.mk_int _ _)
   ·cases h;have ho:0≤b:=ho;exact .same g (v:=.int k (a.fdiv (2^min b.toNat k.bits))) (by have hb:¬(b:Int)<0:=Int.not_lt.mpr ho;simp[Ni,binOp,Op.shift,hb]) (.mk_int _ _)
   ·rename_i n1 n2;split at h;·rename_i hk;have hk:=Ou hk;subst hk;obtain⟨h1,c,h2,h3⟩:=Ww (P:=P) h ho xt E.w ⟨λe=>by subst e;exact(n1 rfl).elim,λe=>by subst e;exact(n2 rfl).elim⟩;exact .same' g h1 (by simp only[eQ,Ni,eF];exact h2) (h3 E)
    ·cases h
  ·cases h
 ·rename_i a0;obtain⟨a,Eo⟩:∃a:Bool,a=a0:=⟨a0,rfl⟩;subst Eo;have hc:=rx.bool_inv;subst hc;split at h
  ·rename_i b0;obtain⟨b,HN⟩:∃b:Bool,b=b0:=⟨b0,rfl⟩;subst HN;have hd:=ry.bool_inv;subst hd;split at h
   ·rename_i sz by_ ze co hs;have ht:P.underlying xt=some .bool:=(hτ xt _ hs).kind;split at h;·cases h;exact .same g (v:=.bool (a==b)) (by simp only[eQ,IC _ _ _ _ (show(Value.bool a).oneCell'=true from rfl) (by simp),eF];exact(M4 (Rq ht a b E.w) (.inl ⟨a,b,rfl,rfl⟩)).1) (.mk_bool _)
    ·cases h;exact .same g (v:=.bool (a !=b)) (by simp only[eQ,IC _ _ _ _ (show(Value.bool a).oneCell'=true from rfl) (by simp),eF];exact(M4 (Rq ht a b E.w) (.inl ⟨a,b,rfl,rfl⟩)).2) (.mk_bool _)
    ·cases h
   ·cases h
  ·cases h
 ·split at h
  ·cases ry;split at h
   ·rename_i sz by_ ze co hs;obtain⟨e,ht⟩:∃e,P.underlying xt=some (.pointer e):=(hτ xt _ hs).kind;have key:∀(b:Bool)(q:Option Addr),c=.pointer q→q.isNone=b→JN op b=some out→Ao P (do eqGuard op xt ox oy c (.pointer none);binOp op xt c (.pointer none)) E objs out:=by
     intro b q hq hb h;subst hq;subst hb;have heq:=M4 (XC ht q E.w) (.inr ⟨_,_,rfl,rfl⟩);unfold JN at h;split at h;·cases h;exact .same g (by simp only[eQ,IC _ _ _ _ (show(Value.pointer q).oneCell'=true from rfl) (by simp),eF];exact heq.1) (.mk_bool _)
     ·cases h;exact .same g (by simp only[eQ,IC _ _ _ _ (show(Value.pointer q).oneCell'=true from rfl) (by simp),eF];exact heq.2) (.mk_bool _)
     ·cases h
    split at h;·cases rx;exact key true none rfl rfl h
    ·obtain⟨b,off,vals,rfl,_⟩:=JR rx;exact key false _ rfl rfl h
    ·cases rx with|opt h1 h2=>rename_i b _ _ _;cases b with|true=>obtain⟨b,off,vals,rfl,_⟩:=JR (h1 rfl);exact key false _ rfl rfl h|false=>exact key true none (h2 rfl) rfl h
    ·cases h
   ·cases h
  ·cases h
theorem W7{op:UnOp}{x:V}{out:AT}(h:Ng op x=some out)(ho:Ae out.ob)(g:U P E objs){c:Value}(rx:N P E x c):Ao P (Op.unary op c) E objs out:=by
 unfold Ng at h;split at h
 ·split at h;·rename_i k n;cases h;have hc:=rx.int_inv;subst hc;obtain⟨c,rfl,hc⟩:=Kh (P:=P) ho;exact .same' g (Md _ _) (by simp[Op.unary,Op.intArith]) (hc E)
  ·cases h
 ·split at h;·cases h;have hc:=rx.bool_inv;subst hc;exact .same g (by simp[Op.unary]) (.mk_bool _)
  ·cases h
 ·cases h
theorem Rl{mx:Bool}{x y:V}{out:AT}(h:LI mx x y=some out)(g:U P E objs){c d:Value}(rx:N P E x c)(ry:N P E y d)(ts:Array TypeId)(t:TypeId):Ao P (if mx then Builtin.max_ ts t #[c,d]else Builtin.min_ ts t #[c,d]) E objs out:=by
 unfold LI at h;split at h
 ·rename_i k a0;obtain⟨a,Eo⟩:∃a:Int,a=a0:=⟨a0,rfl⟩;subst Eo;have hc:=rx.int_inv;subst hc;split at h
  ·rename_i k' b0;obtain⟨b,HN⟩:∃b:Int,b=b0:=⟨b0,rfl⟩;subst HN;have hd:=ry.int_inv;subst hd;split at h
   ·rename_i hk;have hk:=Ou hk;subst hk;have e1:(max a b:Int)=if b>a then b else a:=by omega
    have e2:(min a b:Int)=if b<a then b else a:=by omega
    split at h;·cases h;exact .same g (v:=.int k (max a b)) (by rw[e1];simp[Builtin.max_,Builtin.max2]) (.mk_int _ _)
    ·cases h;exact .same g (v:=.int k (min a b)) (by rw[e2];simp[Builtin.min_,Builtin.min2]) (.mk_int _ _)
   ·cases h
  ·cases h
 ·cases h
theorem Kt{v:V}{p:Option Prop}{b:Bool}{c:Value}(h:Ks v=some (p,b))(hp:Ae p)(r:N P E v c):c=.bool b:=by
 unfold Ks at h;split at h;·cases h;exact r.bool_inv
 ·cases h;cases r with|when h1 h2=>exact(h1 hp).bool_inv
 ·cases h
theorem Pe{c:Bool}{p q:Option Prop}(h:Ae (MJ c p q)):(c=true→Ae p)∧(c=false→Ae q):=by
 cases p<;>cases q;·exact⟨λ_=>trivial,λ_=>trivial⟩
 ·exact⟨λ_=>trivial,h⟩
 ·exact⟨h,λ_=>trivial⟩
 ·exact h
theorem W4{oa ob:Operand}{c x y:V}{out:AT}(h:Nc oa ob c x y=some out)(ho:Ae out.ob)(g:U P E objs){c' x' y':Value}(rc:N P E c c')(rx:N P E x x')(ry:N P E y y')(hx:∀b,oa=.const (.bool b)→x'=.bool b)(hy:∀b,ob=.const (.bool b)→y'=.bool b):Ao P (do pure (if←Go.asBool c' then x' else y')) E objs out:=by
 unfold Nc at h;split at h
 ·rename_i c0;obtain⟨c,Cl⟩:∃c:Bool,c=c0:=⟨c0,rfl⟩;subst Cl;have hc:=rc.bool_inv;subst hc;split at h
  ·rename_i gx x h2;split at h
   ·rename_i gy y h3;split at h;·cases h;have e:=hx true rfl;subst e;cases c with|true=>exact .same g (v:=.bool true) (by simp[Go.asBool]) (.mk_bool _)|false=>have e:=Kt h3 ((Pe ho).2 rfl) ry;subst e;exact .same g (v:=.bool y) (by simp[Go.asBool]) (by simpa using .mk_bool _)
    ·split at h;·cases h;have e:=hy false rfl;subst e;cases c with|false=>exact .same g (v:=.bool false) (by simp[Go.asBool]) (.mk_bool _)|true=>have e:=Kt h2 ((Pe ho).1 rfl) rx;subst e;exact .same g (v:=.bool x) (by simp[Go.asBool]) (by simpa using .mk_bool _)
     ·cases h;obtain⟨h4,h5⟩:=Pe ho;cases c with|true=>have e:=Kt h2 (h4 rfl) rx;subst e;exact .same g (v:=.bool x) (by simp[Go.asBool]) (by simpa using .mk_bool _)|false=>have e:=Kt h3 (h5 rfl) ry;subst e;exact .same g (v:=.bool y) (by simp[Go.asBool]) (by simpa using .mk_bool _)
   ·cases h
  ·cases h
 ·cases h
end
section
variable {P : Program} {τ : AK} {E : AB} {os objs : AA} {n : Nat}
theorem MK(g:U P E objs)(hf:E.loc n=none){cs:List V}{vals:Array Value}{t:TypeId}(r:AE P E cs vals.toList):∃E',E'.w=E.w.alloc (.cells vals t)∧U P E' ((n,.box cs)::objs)∧Ak E objs E' ((n,.box cs)::objs) []∧E'.loc n=some {b:=E.w.heap.size}:=by have hw:=fV E.w (.cells vals t) none;let L:AH:={b:=E.w.heap.size};have hx:=KP g L hf hw;have hr:=r.mono hx;have h:=U.push g (L:=L) (o:=.box cs) hf hw ⟨vals,t,gN _ _,by simpa using hr.1,λj hj=>by simpa[dQ,dM]using hr.2 j hj⟩ λ_=>dT _;exact⟨_,rfl,h.1,h.2,A6 _ _ _ _⟩
theorem KQ(g:U P E objs)(hf:E.loc n=none){T:Ty}{xs:List T.den}{w:World}{cur:Array Value}{e:TypeId}{cap:Nat}(hw:E.w.grownBy w none)(hb:w.heap[E.w.heap.size]?=some (.cells cur e (0,0)))(AW:0<T.size)(CU:xs.length≤cap)(Js:cap≤maxLen)(AS:cur.size=cap*T.size){cs:List Value}(hc:Aa E.w E.S T xs cs)(ht:cur.toList.take (xs.length*T.size)=cs):∃E',E'.w=w∧U P E' ((n,.row T xs)::objs)∧Ak E objs E' ((n,.row T xs)::objs) []∧E'.loc n=some ⟨E.w.heap.size,some ⟨E.w.heap.size,0,none⟩,xs.length,cap,T.size⟩:=by
 let L:AH:=⟨E.w.heap.size,some ⟨E.w.heap.size,0,none⟩,xs.length,cap,T.size⟩;have hx:=KP g L hf hw;have h:=U.push g (L:=L) (o:=.row T xs) hf hw ⟨rfl,AW,rfl,e,cs,hc.mono hx.S,by
  by_cases hz:cap=0;·subst hz;exact .inl ⟨rfl,dZ (by omega)⟩
  ·exact .inr ⟨cur,rfl,hb,CU,jW hz,Js,AS,ht⟩⟩ λ_=>dT _;exact⟨_,rfl,h.1,h.2,A6 _ _ _ _⟩
theorem Zr(g:U P E objs)(hf:E.loc n=none){T:Ty}{m:Nat}{w:World}{cur:Array Value}{e:TypeId}{cap:Nat}(hw:E.w.grownBy w none)(hb:w.heap[E.w.heap.size]?=some (.cells cur e (0,0)))(CU:m≤cap)(Js:cap≤maxLen)(AS:cur.size=cap)(hz:∀i,i<m→cur[i]?=some (.slice none 0 0)):∃E',E'.w=w∧U P E' ((n,.vrow T [] [] m)::objs)∧Ak E objs E' ((n,.vrow T [] [] m)::objs) []∧E'.loc n=some ⟨E.w.heap.size,some ⟨E.w.heap.size,0,none⟩,m,cap,1⟩:=by
 let L:AH:=⟨E.w.heap.size,some ⟨E.w.heap.size,0,none⟩,m,cap,1⟩;have h:=U.push g (L:=L) (o:=.vrow T [] [] m) hf hw ⟨rfl,fW _,by simp[L],e,[],rfl,by
  by_cases h0:cap=0;·subst h0;exact .inl ⟨rfl,Nat.eq_zero_of_le_zero CU⟩
  ·exact .inr ⟨cur,rfl,hb,CU,jW h0,Js,AS,by simp,λj hj=>by simp at hj,λi _ hi=>hz i hi⟩⟩ λ_=>dT _;exact⟨_,rfl,h.1,h.2,A6 _ _ _ _⟩
theorem Ip{w:World}{S:Nat→Prop}{T:Ty}{zs:List Value}(h:Al w S T T.dflt zs):∀n:Nat,Aa w S T (List.replicate n T.dflt) (List.replicate n zs).flatten|0=>rfl|n+1=>⟨zs,_,by simp[iB],h,Ip h n⟩
theorem Wi(hτ:Ah P τ){t:TypeId}{out:AT}(h:NJ τ n t=some out)(g:U P E objs)(hf:E.loc n=none):Ao P (Instr.alloc t true (.tuple #[])) E objs out:=by
 unfold NJ at h;split at h
 ·rename_i m e size bytes zero code Ai;obtain⟨info,z,hi,hs,hb,hz,BS,B5⟩:=(hτ t _ Ai).info;obtain⟨ht,ie,ze,Jm,J5,hzz,AS,YP,hn1,OK⟩:=(hτ t _ Ai).kind;split at h
  ·rename_i k sz by_ zero' T he;cases h;have hei:=hτ e _ he;obtain⟨hTs,AW,ES⟩:=hei.code T rfl;obtain⟨info2,z2,hi2,Fx,Sd,D0,Y0,dG⟩:=hei.info;rw[Jm]at hi2;cases hi2;rw[J5]at D0;cases D0;have AW:0<T.size:=by rw[hTs];exact AW
   have hcl:Aa E.w E.S T (List.replicate m T.dflt) z.cells.toList:=by rw[BS,show zero=_ from hzz,Y0];exact Ip (ES _ _) m
   have hlen:=hcl.length;rw[eU]at hlen;obtain⟨E',hw,h1,h2,h3⟩:=KQ (cap:=m) g hf (fV E.w (.cells z.cells t) none) (gN _ _) AW (by simp) (by unfold maxLen;omega) (by simpa using hlen) hcl (gW (by rw[eU,hlen];exact dT _));refine⟨E',_,by rw[hw];simp[Instr.alloc,Gx hi hz,newVar,newRow];rfl,h1,h2,?_⟩;simpa using N.rref (i:=0) (off:=0) h3
  ·cases h;obtain⟨E',hw,h1,h2,h3⟩:=MK g hf (t:=t) (cs:=Gw zero) (vals:=z.cells) (by rw[BS];exact Mf _);exact⟨E',_,by rw[hw];simp[Instr.alloc,Gx hi hz,newVar,newRow],h1,h2,.ref h3⟩
  ·cases h
 ·rename_i zero _ hn Ai;cases h;obtain⟨info,z,hi,hs,hb,hz,BS,B5⟩:=(hτ t _ Ai).info;obtain⟨E',hw,h1,h2,h3⟩:=MK g hf (t:=t) (cs:=Gw zero) (vals:=z.cells) (by rw[BS];exact Mf _);exact⟨E',_,by rw[hw];simp[Instr.alloc,Gx hi hz,newVar,newRow],h1,h2,.ref h3⟩
 ·cases h
theorem Wn{t:TypeId}{x:V}{out:AT}(h:NL n x=some out)(g:U P E objs)(hf:E.loc n=none){c:Value}(r:N P E x c):Ao P (Instr.box t c) E objs out:=by
 unfold NL at h;split at h;·rename_i cs h1;cases h;obtain⟨E',hw,h2,h3,h4⟩:=MK g hf (t:=t) (MQ h1 r).1;exact⟨E',_,by rw[hw];simp[Instr.box,newVar,newRow],h2,h3,.ref h4⟩
 ·cases h
theorem SA(off:Nat):∀(vs:List Value)(k:Nat)(cells:Array Value),off+k+vs.length≤cells.size→(vs.zipIdx k).foldl (λcs(p:Value×Nat)=>cs.setIfInBounds (off+p.2) p.1) cells=(cells.toList.take (off+k)++vs++cells.toList.drop (off+k+vs.length)).toArray
 |[],k,cells,h=>by simp|v::vs,k,cells,h=>by
  simp only[List.zipIdx_cons,gC,dX]at h⊢;rw[SA off vs (k+1) _ (by simp;omega)];apply kC;simp only[Array.toList_setIfInBounds];apply fP;intro j;have e1:off+(k+1)=off+k+1:=by omega
  rw[e1];have s1:=EM (A:=cells.toList.set (off+k) v) (vs:=vs) (o:=off+k+1) (by simp;omega) j;have s2:=EM (A:=cells.toList) (vs:=v::vs) (o:=off+k) (by simp;omega) j;have e2:off+k+(vs.length+1)=off+k+1+vs.length:=by omega
  simp only[dX,e2]at s2⊢;rw[s1,s2];by_cases c1:j<off+k;·rw[dO (by omega),dO c1,jI (by omega)]
  ·by_cases c2:j=off+k;·subst c2;rw[dO (by omega),dK c1,dO (by omega)];rw[List.getElem?_set_self (by simp;omega)];simp
   ·rw[dK (by omega),dK c1];by_cases c3:j<off+k+1+vs.length
    ·rw[dO c3,dO (by omega)];have :j-(off+k)=j-(off+k+1)+1:=by omega
     rw[this];simp
    ·rw[dK c3,dK (by omega),jI (by omega)]
theorem Nn{place:Nat→Option (Nat×Nat)}{cells:Array Value}{i off size:Nat}{v:Value}{rest:List (Nat×Value)}(hp:place i=some (off,size))(hs:v.cells.toList.length=size)(hf:off+size≤cells.size):Instr.fill place cells ((i,v)::rest)=Instr.fill place (cells.toList.take off++v.cells.toList++cells.toList.drop (off+v.cells.toList.length)).toArray rest:=by
 have AS:v.cells.size=size:=by simpa using hs
 have h1:¬(v.cells.size≠size∨off+v.cells.size>cells.size):=by omega
 have ON:=SA off v.cells.toList 0 cells (by simp;omega);simp only[Instr.fill,hp];rw[dK (by simpa using h1)];congr 1;rw[←lK,Array.toList_zipIdx];simpa using ON
theorem Nl{offs:List (Nat×Nat)}:∀{parts:List (Nat×V)}{vals:List (Nat×Value)}{cs cs':List V}{cells:Array Value},IF offs cs parts=some cs'→AE P E cs cells.toList→parts.map (·.1)=vals.map (·.1)→(∀(j:Nat)(p:Nat×V)(q:Nat×Value),parts[j]?=some p→vals[j]?=some q→N P E p.2 q.2)→∃cells',Instr.fill (offs[·]?) cells vals=some cells'∧AE P E cs' cells'.toList
 |[],vals,cs,cs',cells,h,r,hm,_=>by
  have :vals=[]:=by simpa using hm.symm
  subst this;simp only[IF]at h;cases h;exact⟨cells,rfl,r⟩|(i,v)::parts,[],cs,cs',cells,h,r,hm,_=>by simp at hm|(i,v)::parts,(i',c)::vals,cs,cs',cells,h,r,hm,hr=>by
  simp only[fK,hE]at hm;obtain⟨rfl,hm⟩:=hm;simp only[IF]at h;split at h
  ·rename_i o m ho;split at h
   ·rename_i new hn;split at h
    ·rename_i hlen;have hlen:=dJ hlen;split at h;·rename_i cs1 h1;have hc:=(MQ hn (hr 0 _ _ rfl rfl)).1;obtain⟨h3,h4⟩:=r.put h1 hc;have hl:c.cells.toList.length=m:=hc.1.trans hlen;obtain⟨cells',h5,h6⟩:=Nl (vals:=vals) (cells:=(cells.toList.take o++c.cells.toList++cells.toList.drop (o+c.cells.toList.length)).toArray) h (by simpa using h3) hm λj p q hp hq=>hr (j+1) p q (by simpa using hp) (by simpa using hq);exact⟨cells',by rw[Nn (place:=(offs[·]?)) ho hl (by simp at h4 hl⊢;omega)];exact h5,h6⟩
     ·cases h
    ·cases h
   ·cases h
  ·cases h
theorem UE{α β:Type}{f:α→Sem β}{g:α→β}:∀{l:List α},(∀x∈l,∀w,(f x).run P w=.ok (g x) w)→∀w,(l.mapM f).run P w=.ok (l.map g) w|[],_,w=>by simp|x::l,h,w=>by have h1:=h x (by simp) w;have h2:=UE (l:=l) (λy hy=>h y (by simp[hy])) w;simp[h1,h2]
theorem Rt{p q:Nat→Option (Nat×Nat)}:∀{parts:List (Nat×Value)}{cells cells':Array Value},(∀i r,p i=some r→q i=some r)→Instr.fill p cells parts=some cells'→Instr.fill q cells parts=some cells'|[],_,_,_,h=>h|(i,v)::rest,cells,cells',TF,h=>by unfold Instr.fill at h⊢;cases hp:p i with|none=>rw[hp]at h;cases h|some r=>
 rw[hp]at h;rw[TF i r hp];simp only at h⊢;split at h;·cases h
 ·rename_i hc;rw[dK hc];exact Rt TF h
theorem Wq(hτ:Ah P τ){t:TypeId}{parts:List (Nat×V)}{vals:Array (Nat×Value)}{out:AT}(h:NM τ t parts=some out)(g:U P E objs)(hm:parts.map (·.1)=vals.toList.map (·.1))(hr:∀(j:Nat)(p:Nat×V)(q:Nat×Value),parts[j]?=some p→vals.toList[j]?=some q→N P E p.2 q.2):Ao P (Instr.build t vals) E objs out:=by
 unfold NM at h;split at h
 ·rename_i offs sz by_ zero co Ai;split at h
  ·rename_i cs h1;cases h;have hok:=hτ t _ Ai;obtain⟨fs,h2,h3,h4⟩:=hok.kind;obtain⟨info,z,hi,hs,hb,hz,BS,B5⟩:=hok.info;obtain⟨cells',h5,h6⟩:=Nl (vals:=vals.toList) (cells:=z.cells) h1 (by rw[BS];exact Mf _) hm hr;have YY:∀w,(fs.mapM λf=>Prod.mk f.offset<$>sizeOf f.type:Sem (Array (Nat×Nat))).run P w=.ok offs.toArray w:=by
    intro w;rw[kD];simp only[Sem.run_map];rw[UE (g:=λf=>(f.offset,P.cellsOf f.type))];·simp[h3]
    ·intro f hf w;have IY:=h4 (f.offset,P.cellsOf f.type) (by rw[←h3];exact List.mem_map.2 ⟨f,hf,rfl⟩);cases hq:P.info? f.type with|none=>simp[Program.cellsOf,hq]at IY|some i=>simp[EL hq,Program.cellsOf,hq]
   refine .same g (v:=.agg cells') ?_ (.agg (by simpa using h6.1) λj hj=>by simpa[dQ,dM]using h6.2 j hj);simp[Instr.build,Gx hi hz,dU h2,YY,h5]
  ·cases h
 ·rename_i m e size bytes zero code Ai;obtain⟨info,z,hi,hs,hb,hz,BS,B5⟩:=(hτ t _ Ai).info;have ht:=(hτ t _ Ai).kind.1;split at h
  ·rename_i ei he;split at h;·rename_i cs h1;cases h;obtain⟨info2,z2,hi2,Fx,_⟩:=(hτ e _ he).info;obtain⟨cells',h5,h6⟩:=Nl (vals:=vals.toList) (cells:=z.cells) h1 (by rw[BS];exact Mf _) hm hr;refine .same g (v:=.agg cells') ?_ (.agg (by simpa using h6.1) λj hj=>by simpa[dQ,dM]using h6.2 j hj);have h7:=Rt (q:=λi=>some (i*ei.size,ei.size)) λi r hr=>by simp only[fT,eL]at hr;obtain⟨k,hk,rfl⟩:=hr;have :=iR (iZ▸(List.getElem?_eq_some_iff.1 hk).1);rw[hk]at this;cases this;rfl h5;simp[Instr.build,Gx hi hz,dU ht,EL hi2,Fx,h7]
   ·cases h
  ·cases h
 ·cases h
theorem Y9(hτ:Ah P τ){t e:TypeId}{m size bytes:Nat}{zero:List Value}{code:Option Ty}{ei:TI}{k:IntKind}{cs:List V}{i:Nat}{v:V}(Ai:τ t=some ⟨.arr m e,size,bytes,zero,code⟩)(he:τ e=some ei)(h1:i<m)(h2:ei.size=1)(h3:ei.isAgg=false)(h4:ei.k.known=true)(hv:cs[i]?=some v)(w:World){c:Value}(rx:N P E (.agg cs) c):∃u,N P E v u∧(Instr.index t c (.int k i)).run P w=.ok u w:=by have ht:=(hτ t _ Ai).kind.1;have hei:=hτ e _ he;obtain⟨info,z,hi,hs,_⟩:=hei.info;cases rx with|agg hl hcs=>
 rename_i a;have AM:i<cs.length:=(List.getElem?_eq_some_iff.1 hv).1;have hr:=hcs i AM;have e1:cs.getD i .any=v:=by rw[dM,hv];rfl
 rw[e1]at hr;refine⟨a.getD i undef,hr,?_⟩;obtain⟨d,ED,OD⟩:=hei.desc h4;have Sc:=Oy (P:=P) ED w;rw[OD,h3]at Sc;have OY:i<a.size:=by rw[hl];exact AM
 have AS:info.size=1:=by rw[hs];exact h2
 have hi1:(i:Int)<(m:Int):=by omega
 have hrun:(Go.part e a i).run P w=.ok (a.getD i undef) w:=by simp[Go.part,Sc,OY,dQ]
 simp[Instr.index,asIntOf,dU ht,hi1,h1,EL hi,AS,hrun]
theorem Rj(hτ:Ah P τ){t:TypeId}{x ix:V}{out:AT}(h:JM τ t x ix=some out)(g:U P E objs){c d:Value}(rx:N P E x c)(ri:N P E ix d):Ao P (Instr.index t c d) E objs out:=by
 unfold JM at h;split at h
 ·rename_i m e size bytes zero code Ai;split at h
  ·rename_i cs;split at h
   ·rename_i k i;have hd:=ri.int_inv;subst hd;split at h
    ·rename_i ei he;split at h
     ·rename_i hc;simp only[eP,Nat.blt_eq,Bool.not_eq_eq_eq_not,fY]at hc;obtain⟨⟨⟨h1,h2⟩,h3⟩,h4⟩:=hc;split at h;·rename_i v hv;cases h;obtain⟨u,hr,hrun⟩:=Y9 hτ (k:=k) Ai he h1 (dJ h2) h3 h4 hv E.w rx;exact .same g hrun hr
      ·cases h
     ·cases h
    ·cases h
   ·cases h
  ·cases h
 ·cases h
end
section
variable {P : Program} {τ : AK} {E : AB} {os objs : AA} {n : Nat}
theorem Rm{T:Ty}:∀{parts:List (Nat×V)}{vals:List (Nat×Value)}{n:Nat}{xs:List T.den},JP T n parts=some xs→parts.map (·.1)=vals.map (·.1)→(∀(j:Nat)(p:Nat×V)(q:Nat×Value),parts[j]?=some p→vals[j]?=some q→N P E p.2 q.2)→xs.length=parts.length∧∃cs,Aa E.w E.S T xs cs∧∀(cells:Array Value),n*T.size+parts.length*T.size≤cells.size→Instr.fill (λi=>some (i*T.size,T.size)) cells vals=some (cells.toList.take (n*T.size)++cs++cells.toList.drop (n*T.size+cs.length)).toArray
 |[],vals,n,xs,h,hm,_=>by
  have :vals=[]:=by simpa using hm.symm
  subst this;simp only[JP,gB]at h;subst h;exact⟨rfl,[],rfl,λcells _=>by simp[Instr.fill]⟩|(i,v)::parts,[],n,xs,h,hm,_=>by simp at hm|(i,v)::parts,(i',c)::vals,n,xs,h,hm,hr=>by
  simp only[fK,hE]at hm;obtain⟨rfl,hm⟩:=hm;simp only[JP]at h;split at h
  ·rename_i hi;have hi:=dJ hi;subst hi;split at h
   ·rename_i new hn;split at h
    ·rename_i x hp;split at h
     ·rename_i l hl;cases h;have hc:=D1 hp (MQ hn (hr 0 _ _ rfl rfl)).1;obtain⟨h1,cs,h2,h3⟩:=Rm (vals:=vals) hl hm λj p q hp hq=>hr (j+1) p q (by simpa using hp) (by simpa using hq);have hcl:=hc.length;have OC:=h2.length;refine⟨by simp[h1],c.cells.toList++cs,⟨_,_,rfl,hc,h2⟩,λcells BZ=>?_⟩;have hmul:(i+1)*T.size=i*T.size+T.size:=fL _ _;have YO:(parts.length+1)*T.size=parts.length*T.size+T.size:=fL _ _;simp only[dX]at BZ;rw[Nn (off:=i*T.size) (size:=T.size) rfl hcl (by omega),h3 _ (by simp only[gI,dW,eM,fG,eG]at hcl⊢;omega)];congr 2;have cR:cs.length=parts.length*T.size:=by rw[OC,h1]
      apply fP;intro k;have hA:(cells.toList.take (i*T.size)++c.cells.toList++cells.toList.drop (i*T.size+c.cells.toList.length)).length=cells.size:=by simp only[dW,eM,fG,eG]at hcl⊢;omega
      have s1:=EM (A:=cells.toList.take (i*T.size)++c.cells.toList++cells.toList.drop (i*T.size+c.cells.toList.length)) (vs:=cs) (o:=(i+1)*T.size) (by rw[hA];omega) k;have s2:=EM (A:=cells.toList) (vs:=c.cells.toList) (o:=i*T.size) (by simp only[eG]at hcl⊢;omega) k;have s3:=EM (A:=cells.toList) (vs:=c.cells.toList++cs) (o:=i*T.size) (by simp only[dW,eG]at hcl⊢;omega) k;rw[s1,s2,s3];simp only[dW]at hcl⊢;by_cases c1:k<i*T.size;·rw[dO (by omega),dO c1,dO c1]
      ·by_cases c2:k<i*T.size+T.size;·rw[dO (by omega),dK c1,dO (by omega),dK c1,dO (by omega),fI (by omega)]
       ·rw[dK (by omega)];by_cases c3:k<(i+1)*T.size+cs.length;·rw[dO c3,dK c1,dO (by omega),fH (by omega)];congr 1;omega
        ·rw[dK c3,dK c1,dK (by omega),dK c1,dK (by omega)]
     ·cases h
    ·cases h
   ·cases h
  ·cases h
theorem Q2:∀{parts:List (Nat×V)}{vals:List (Nat×Value)}{n:Nat}{cs:List V},cellsOf n parts=some cs→parts.map (·.1)=vals.map (·.1)→(∀(j:Nat)(p:Nat×V)(q:Nat×Value),parts[j]?=some p→vals[j]?=some q→N P E p.2 q.2)→cs.length=parts.length∧∃us,AE P E cs us∧∀(cells:Array Value),n+parts.length≤cells.size→Instr.fill (λi=>some (i*1,1)) cells vals=some (cells.toList.take n++us++cells.toList.drop (n+us.length)).toArray
 |[],vals,n,cs,h,hm,_=>by
  have :vals=[]:=by simpa using hm.symm
  subst this;simp only[cellsOf,gB]at h;subst h;exact⟨rfl,[],.nil,λcells _=>by simp[Instr.fill]⟩|(i,v)::parts,[],n,cs,h,hm,_=>by simp at hm|(i,v)::parts,(i',c)::vals,n,cs,h,hm,hr=>by
  simp only[fK,hE]at hm;obtain⟨rfl,hm⟩:=hm;simp only[cellsOf]at h;split at h
  ·rename_i hi;have hi:=dJ hi;subst hi;split at h
   ·rename_i hv;split at h
    ·rename_i l hl;cases h;have rc:=hr 0 _ _ rfl rfl;have Fv:=MS hv rc;have OA:=NA Fv;obtain⟨h1,us,h2,h3⟩:=Q2 (vals:=vals) hl hm λj p q hp hq=>hr (j+1) p q (by simpa using hp) (by simpa using hq);have dF:us.length=parts.length:=h2.1.trans h1;refine⟨by simp[h1],c::us,.cons rc h2,λcells BZ=>?_⟩;simp only[dX]at BZ;rw[Nn (off:=i*1) (size:=1) rfl (by rw[OA];rfl) (by omega),h3 _ (by rw[OA];simp only[gI,dW,eM,fG,eG,dX,eC];omega)];congr 2;rw[OA,hN];apply fP;intro k;have s1:=EM (A:=cells.toList.take i++[c]++cells.toList.drop (i+[c].length)) (vs:=us) (o:=i+1) (by simp only[dW,eM,fG,eG,dX,eC];omega) k;have s2:=EM (A:=cells.toList) (vs:=[c]) (o:=i) (by simp;omega) k;have s3:=EM (A:=cells.toList) (vs:=c::us) (o:=i) (by simp;omega) k;simp only[dX,eC,fE]at s1 s2 s3⊢;rw[s1,s2,s3];by_cases c1:k<i;·rw[dO (by omega),dO c1,dO c1]
     ·by_cases c2:k<i+1
      ·rw[dO c2,dK c1,dO c2,dK c1,dO (by omega)];have :k-i=0:=by omega
       rw[this];rfl
      ·rw[dK c2];by_cases c3:k<i+1+us.length
       ·rw[dO c3,dK c1,dO (by omega)];have :k-i=k-(i+1)+1:=by omega
        rw[this];rfl
       ·rw[dK c3,dK c1,dK c2,dK c1,dK (by omega)]
    ·cases h
   ·cases h
  ·cases h
theorem T9{t e:TypeId}{info:TypeInfo}{z:Value}{len sz:Nat}{vals:Array (Nat×Value)}{cs:List Value}(ht:P.underlying t=some (.slice e))(hi:P.info? e=some info)(hz:info.zero=some z)(hs:info.size=sz)(Oh:len*sz≤16777216)(hf:∀cells:Array Value,cells.size=len*sz→Instr.fill (λi=>some (i*sz,sz)) cells vals.toList=some cs.toArray)(w:World):(Instr.buildSlice t len vals).run P w=.ok (.slice (some ⟨w.heap.size,0,none⟩) len len) (w.alloc (.cells cs.toArray e)):=by
 subst hs;have S6:¬len*info.size>2^24:=by omega
 by_cases BR:len*info.size=0
 ·have h5:=hf #[] (by simp[BR]);have e2:(Array.range (len*info.size)).map (λx=>(#[]:Array Value)[x%(#[]:Array Value).size]!)=#[]:=by rw[BR];apply iC;simp
  simp only[Instr.buildSlice,eQ,dU ht,eF,EL hi,dK S6,Sem.run_ite,dO BR,fQ,e2,h5];simp[newRow]
 ·have h5:=hf ((Array.range (len*info.size)).map (z.cells[·%z.cells.size]!)) (by simp);simp[Instr.buildSlice,dU ht,EL hi,S6,BR,Gx hi hz,h5,newRow]
theorem Wo(hτ:Ah P τ){t:TypeId}{len:Nat}{parts:List (Nat×V)}{vals:Array (Nat×Value)}{out:AT}(h:NN τ n t len parts=some out)(g:U P E objs)(hf:E.loc n=none)(hm:parts.map (·.1)=vals.toList.map (·.1))(hr:∀(j:Nat)(p:Nat×V)(q:Nat×Value),parts[j]?=some p→vals.toList[j]?=some q→N P E p.2 q.2):Ao P (Instr.buildSlice t len vals) E objs out:=by
 unfold NN at h;split at h
 ·rename_i e sz by_ zero co Ai;have ht:P.underlying t=some (.slice e):=(hτ t _ Ai).kind;split at h
  ·rename_i k size bytes zero' T hei;have hei:=hτ e _ hei;split at h
   ·rename_i hc;simp only[eP]at hc;have hlen:=dJ hc.1;have Oh:=eJ hc.2;split at h
    ·rename_i xs h1;cases h;obtain⟨hTs,AW,_⟩:=hei.code T rfl;have hTs:T.size=size:=hTs;have AW:0<T.size:=by rw[hTs];exact AW
     obtain⟨info,z,hi,hs,hb,hz,BS,B5⟩:=hei.info;obtain⟨h2,cs,h3,h4⟩:=Rm (vals:=vals.toList) h1 hm hr;have hcl:=h3.length;have hrun:=T9 (P:=P) (vals:=vals) (cs:=cs) (len:=len) (sz:=T.size) ht hi hz (by rw[hs];exact hTs.symm) (by rw[hTs];exact Oh) λcells hcs=>by rw[h4 cells (by rw[hcs,hlen];omega),jL,fE,kS (by rw[eG,hcs,hcl,h2,hlen];exact dT _)];simp E.w;have Fv:xs.length*1≤xs.length*T.size:=Nat.mul_le_mul_left _ AW;have hmul:len*size=xs.length*T.size:=by rw[h2,hlen,hTs]
     obtain⟨E',hw,g1,g2,g3⟩:=KQ g hf (xs:=xs) (w:=E.w.alloc (.cells cs.toArray e)) (cur:=cs.toArray) (e:=e) (cap:=xs.length) (fV _ _ _) (gN _ _) AW (dT _) (by unfold maxLen;omega) (by simp[hcl]) h3 (by rw[←hcl];simp);refine⟨E',_,by rw[hw];exact hrun,g1,g2,?_⟩;have e1:xs.length=len:=by rw[h2,hlen]
     rw[e1]at g3;exact .osl g3
    ·cases h
   ·cases h
  ·rename_i k size bytes zero' hei;have hei:=hτ e _ hei;split at h
   ·rename_i hc;simp only[eP]at hc;obtain⟨⟨⟨FH,FJ⟩,Xw⟩,cP⟩:=hc;have hlen:=dJ FH;have Oh:=eJ FJ;have AS:=dJ Xw;split at h;·rename_i cs h1;cases h;obtain⟨info,z,hi,hs,hb,hz,BS,B5⟩:=hei.info;obtain⟨h2,us,h3,h4⟩:=Q2 (vals:=vals.toList) h1 hm hr;have hrun:=T9 (P:=P) (vals:=vals) (cs:=us) (len:=len) (sz:=1) ht hi hz (by rw[hs];exact AS) (by omega) λcells hcs=>by rw[h4 cells (by omega),fE,kS (by rw[eG,hcs,h3.1,h2,hlen];omega)];simp E.w;obtain⟨E',hw,g1,g2,g3⟩:=MK g hf (t:=e) (cs:=cs) (vals:=us.toArray) (by simpa using h3);exact⟨E',_,by rw[hw];exact hrun,g1,g2,.bsl g3⟩
    ·cases h
   ·cases h
  ·cases h
 ·cases h
theorem PB{z:Array Value}{n c:Nat}(hz:0<z.size)(h:n≤c):(madeCells z (c*z.size)).toList.take (n*z.size)=(List.replicate n z.toList).flatten:=by
 have hl:n*z.size≤c*z.size:=eT _ h;have key:∀n k,k<n*z.size→(List.replicate n z.toList).flatten[k]?=some z[k%z.size]!:=by intro n;induction n with|zero=>intro k hk;simp at hk|succ n ih=>
  intro k hk;rw[iB,gR];rcases iJ k z.size with h1|h1;·rw[fI (by simpa using h1),mK h1];simp[h1]
  ·rw[fH (by simpa using h1),eG,ih _ (by rw[fL]at hk;omega),Nat.mod_eq_sub_mod h1]
 have Jk:∀n,(List.replicate n z.toList).flatten.length=n*z.size:=by intro n;simp
 apply fP;intro k;rw[eE];split;·rename_i hk;rw[key n k hk];simp only[madeCells,fD,lL];rw[lB,dO (by omega)];rfl
 ·rw[fM (by rw[Jk];omega)]
theorem W1(hτ:Ah P τ){t:TypeId}{l c:V}{out:AT}(h:NZ τ n t l c=some out)(ho:Ae out.ob)(g:U P E objs)(hf:E.loc n=none){l' c':Value}(rl:N P E l l')(rc:N P E c c'):Ao P (Instr.makeSlice t l' c') E objs out:=by
 unfold NZ at h;split at h
 ·rename_i e sz by_ zero co Ai;have ht:P.underlying t=some (.slice e):=(hτ t _ Ai).kind;split at h
  ·rename_i l0;obtain⟨l,YH⟩:∃l:Int,l=l0:=⟨l0,rfl⟩;subst YH;have hl:=rl.int_inv;subst hl;split at h
   ·rename_i c0;obtain⟨c,Cl⟩:∃c:Int,c=c0:=⟨c0,rfl⟩;subst Cl;have hc:=rc.int_inv;subst hc;split at h
    ·rename_i k size bytes zero' T hei;have hei:=hτ e _ hei;cases h;obtain⟨h0,S0,LX,Js⟩:0≤l∧l≤c∧c*bytes≤140737488355328∧c≤9223372036854775807:=ho;obtain⟨hTs,AW,BR⟩:=hei.code T rfl;have hTs:T.size=size:=hTs;have AW:0<T.size:=by rw[hTs];exact AW
     obtain⟨info,z,hi,hs,hb,hz,BS,B5⟩:=hei.info;have hs:info.size=size:=hs;have hb:info.bytes=bytes:=hb;have BS:z.cells.toList=zero':=BS;have B5:z.cells.size=size:=B5;have hrun:=run_make (P:=P) E.w t e info z ht hi hz .i64 .i64 l c h0 S0 (by rw[hb,Int.mul_comm];omega) Js;have hzz:z.cells.size=T.size:=by rw[B5,hTs]
     have OX:l.toNat≤c.toNat:=by omega
     have plain:Ao P (Instr.makeSlice t (.int .i64 l) (.int .i64 c)) E objs ⟨some (0≤l∧l≤c∧c*bytes≤140737488355328∧c≤9223372036854775807),.osl n,some (n,.row T (List.replicate l.toNat T.dflt),false)⟩:=by obtain⟨E',hw,g1,g2,g3⟩:=KQ g hf (xs:=List.replicate l.toNat T.dflt) (w:=E.w.alloc (.cells (madeCells z.cells (c.toNat*info.size)) e)) (cur:=madeCells z.cells (c.toNat*info.size)) (e:=e) (cap:=c.toNat) (fV _ _ _) (gN _ _) AW (by simpa using OX) (by unfold maxLen;omega) (by rw[size_madeCells,hs,hTs]) (Ip (BR E.w E.S) l.toNat) (by rw[eU,hs,←hTs,←hzz,PB (by omega) OX,←BS]);refine⟨E',_,by rw[hw];exact hrun,g1,g2,?_⟩;rw[eU]at g3;exact .osl g3
     cases T with|sl u=>
      unfold VU;split
      ·rename_i u' hu;cases hu;split
       ·split
        ·have Dz:info.size=1:=hs.trans hTs.symm;have Cl:z.cells.toList=[.slice none 0 0]:=BS;have Yy:z.cells=#[.slice none 0 0]:=by rw[←lC (xs:=z.cells),Cl]
         obtain⟨E',hw,g1,g2,g3⟩:=Zr (T:=u) (m:=l.toNat) g hf (w:=E.w.alloc (.cells (madeCells z.cells (c.toNat*info.size)) e)) (cur:=madeCells z.cells (c.toNat*info.size)) (e:=e) (cap:=c.toNat) (fV _ _ _) (gN _ _) OX (by unfold maxLen;omega) (by rw[size_madeCells,Dz,hN]) λi hi=>by rw[Yy,Dz,hN];simp only[madeCells,lL];rw[lB,dO (by omega)];simp[Nat.mod_one]
         exact⟨E',_,by rw[hw];exact hrun,g1,g2,.osl g3⟩
        ·exact plain
       ·exact plain
      ·rename_i hn;exact absurd rfl (hn u)|_=>exact plain
    ·cases h
   ·cases h
  ·cases h
 ·cases h
def CO(w:World)(size m:Nat)(news:List Value)(c:Value):Prop:=news.length=m*size∧((∃a cap,c=.slice a m cap∧(0<m→∃ad,a=some ad∧∀j v,news[j]?=some v→w.cell? (ad.add j)=some v))∨∃s:ByteArray,c=.string s∧m=s.size∧news=Lib.strCells s)
theorem CO.lenOf{w:World}{size m:Nat}{news:List Value}{c:Value}(h:CO w size m news c)(w':World):(Builtin.lenOf c).run P w'=.ok m w':=by obtain⟨h1,⟨a,cap,rfl,h2⟩|⟨s,rfl,rfl,h2⟩⟩:=h<;>simp[Builtin.lenOf]
theorem CO.run{w:World}{size m:Nat}{news:List Value}{c:Value}(h:CO w size m news c){w':World}(hw:w'.heap=w.heap):(Builtin.firstCells size m c).run P w'=.ok news.toArray w':=by
 obtain⟨h1,⟨a,cap,rfl,h2⟩|⟨s,rfl,rfl,rfl⟩⟩:=h
 ·by_cases hm:0<m;·obtain⟨ad,rfl,h3⟩:=h2 hm;exact run_firstCells_some (P:=P) w' size m ad m cap news h1 λj v hj=>by rw[show w'.cell? (ad.add j)=w.cell? (ad.add j)from by simp only[World.cell?,hw]];exact h3 j v hj
  ·have h0:m=0:=by omega
   subst h0;have hn:news=[]:=dZ (by omega);subst hn;cases a with|none=>simp[Builtin.firstCells]|some ad=>simp[Builtin.firstCells,loadCells,loadCellsFrom]
 ·exact Lib.run_firstCells_string w' size s
theorem aK{T:Ty}{l:List T.den}{c:Value}(h:Al E.w E.S (.sl T) l [c]):∃cs,Aa E.w E.S T l cs∧CO E.w T.size l.length cs c:=by
 obtain⟨a,cap,hc,CU,hl⟩:=h;have hc':c=.slice a l.length cap:=by simpa using hc
 subst hc';by_cases AU:l=[];·subst AU;exact⟨[],rfl,by simp,.inl ⟨a,cap,rfl,λh=>by simp at h⟩⟩
 ·obtain⟨b,off,rfl,hS,hx⟩:=hl AU;have :∀(l':List T.den)(k:Nat),(∀i x,l'[i]?=some x→l[k+i]?=some x)→∃cs,Aa E.w E.S T l' cs∧∀j u,cs[j]?=some u→E.w.cell? ⟨b,off+k*T.size+j,none⟩=some u:=by intro l';induction l' with|nil=>intro k _;exact⟨[],rfl,λj u h=>by simp at h⟩|cons x l' ih=>
   intro k hk;obtain⟨cs',h1,h2⟩:=hx k x (hk 0 x rfl);obtain⟨cs,h3,h4⟩:=ih (k+1) λi y hy=>by rw[show k+1+i=k+(i+1)from by omega];exact hk (i+1) y (by simpa using hy)
   have Lg:=h1.length;refine⟨cs'++cs,⟨cs',cs,rfl,h1,h3⟩,λj u hj=>?_⟩;rcases iJ j cs'.length with AM|EU;·rw[fI AM]at hj;exact h2 j u hj
   ·rw[fH EU]at hj;have :=h4 _ u hj;rw[fL]at this;rw[←this];congr 2;omega
  obtain⟨cs,h1,h2⟩:=this l 0 λi x h=>by simpa using h
  refine⟨cs,h1,h1.length,.inl ⟨_,cap,rfl,λ_=>⟨_,rfl,λj v hj=>?_⟩⟩⟩;rw[fO];simpa using h2 j v hj
theorem Aa.take{w:World}{S:Nat→Prop}{t:Ty}:∀{l:List t.den}{cs:List Value}(n:Nat),Aa w S t l cs→Aa w S t (l.take n) (cs.take (n*t.size))|l,cs,0,_=>by simp[Aa]|[],cs,n+1,h=>by rw[show cs=[]from h];simp[Aa]|x::l,cs,n+1,⟨c1,c2,h,h1,h2⟩=>by have hl:=h1.length;refine⟨c1,c2.take (n*t.size),?_,h1,h2.take n⟩;rw[h,fL,←hl,Nat.add_comm,List.take_length_add_append,hl]
theorem Aa.drop{w:World}{S:Nat→Prop}{t:Ty}:∀{l:List t.den}{cs:List Value}(n:Nat),Aa w S t l cs→Aa w S t (l.drop n) (cs.drop (n*t.size))|l,cs,0,h=>by simpa using h|[],cs,n+1,h=>by rw[show cs=[]from h];simp[Aa]|x::l,cs,n+1,⟨c1,c2,h,h1,h2⟩=>by have hl:=h1.length;rw[h,fL,←hl,show n*c1.length+c1.length=c1.length+n*c1.length from Nat.add_comm _ _,List.drop_length_add_append,hl];exact h2.drop n
theorem Py{L:AH}{T:Ty}{xs:List T.den}(h:AY P E L (.row T xs)){lo m:Nat}(Dj:lo+m≤xs.length){c:Value}(hp:L.Part lo m c):∃cs,Aa E.w E.S T ((xs.drop lo).take m) cs∧CO E.w T.size m cs c:=by
 obtain⟨CH,AW,hlen,e,cs,h9,Au⟩:=id h;have EE:((xs.drop lo).take m).length=m:=by simp;omega
 rcases Au with⟨hc,rfl⟩|⟨cur,B4,Bt,Ex,FS,Ie,FT,FU⟩
 ·have hm:m=0:=by simp at Dj;omega
  subst hm;obtain⟨a,rfl,_⟩:=hp;exact⟨[],by simp[Aa],by simp,.inl ⟨_,_,rfl,λh=>by omega⟩⟩
 ·refine⟨(cs.drop (lo*T.size)).take (m*T.size),(h9.drop lo).take m,by have :=((h9.drop lo).take m).length;rw[EE]at this;exact this,.inl ?_⟩;by_cases hm:m=0;·subst hm;obtain⟨a,rfl,_⟩:=hp;exact⟨_,_,rfl,λh=>by omega⟩
  ·rw[MI h Dj (by omega) hp];refine⟨_,_,rfl,λ_=>⟨_,rfl,λj v hj=>?_⟩⟩;rw[eE]at hj;split at hj
   ·rename_i cX;rw[gM]at hj;rw[fO,Fj Bt];rw[←FU,eE]at hj;split at hj;·simpa using hj
    ·cases hj
   ·cases hj
theorem Hk{L:AH}{T:Ty}{xs:List T.den}(h:AY P E L (.row T xs)):L.Part 0 xs.length L.v:=by
 have hlen:=h.2.2.1;obtain⟨_,_,_,e,cs,h9,Au⟩:=h;refine⟨L.a,by rw[AH.v,hlen];rfl,λhc=>?_⟩;rcases Au with⟨h0,rfl⟩|⟨cur,B4,Bt,Ex,FS,_⟩;·exact absurd h0 hc
 ·simp[B4,fO]
theorem Up{L:AH}{T:Ty}{xs:List T.den}(h:AY P E L (.row T xs)):∃cs,Aa E.w E.S T xs cs∧CO E.w T.size xs.length cs L.v:=by have :=Py h (lo:=0) (m:=xs.length) (by omega) (Hk h);rw[jT,eD]at this;exact this
theorem U2{T:Ty}{x:V}{ys:List T.den}{p:Option Prop}(h:MU T os x=some (ys,p))(hs:BV os objs)(hp:Ae p)(g:U P E objs){c:Value}(r:N P E x c):(∃cs,Aa E.w E.S T ys cs∧CO E.w T.size ys.length cs c)∧∃a m cap,c=.slice a m cap:=by
 unfold MU at h;split at h
 ·rename_i l;split at h
  ·rename_i t xs hcs;split at h;·rename_i ht;subst ht;cases h;obtain⟨L,hL,_,hat⟩:=g.get hs hcs;obtain⟨K,hK,rfl⟩:=DB r;rw[hL]at hK;cases hK;exact⟨Up hat,_,_,_,rfl⟩
   ·cases h
  ·cases h
 ·rename_i l lo m;split at h
  ·rename_i t xs hcs;split at h
   ·rename_i ht;subst ht;cases h;have hp:lo+m≤xs.length:=hp;obtain⟨L,hL,_,hat⟩:=g.get hs hcs;obtain⟨K,hK,EI⟩:=Ez r;rw[hL]at hK;cases hK;have EE:((xs.drop lo).take m).length=m:=by simp;omega
    simp only[EE];refine⟨Py hat hp EI,?_⟩;obtain⟨a,rfl,_⟩:=EI;exact⟨_,_,_,rfl⟩
   ·cases h
  ·cases h
 ·split at h;·rename_i l hl;cases h;have hc:=Qr hl r;refine⟨aK hc,?_⟩;obtain⟨a,cap,h,_⟩:=hc;exact⟨a,_,cap,by simpa using h⟩
  ·cases h
theorem U1{T:Ty}{x:V}{ys:List T.den}{p:Option Prop}(h:P5 T os x=some (ys,p))(hs:BV os objs)(hp:Ae p)(g:U P E objs){c:Value}(r:N P E x c):∃cs,Aa E.w E.S T ys cs∧CO E.w T.size ys.length cs c:=by
 unfold P5 at h;split at h
 ·rename_i s;split at h
  ·cases h;rw[r.str_inv];have hl:(Fa s).length=ByteArray.size s:=by simp only[Fa,fB,eG];rfl
   refine⟨Lib.strCells s,?_,by simp[Lib.strCells_length,Ty.size,hl],.inr ⟨s,rfl,hl,rfl⟩⟩;have :∀l:List UInt8,Aa E.w E.S (.int .u8) (l.map λb=>(b.toNat:Int)) (l.map λb=>Value.int .u8 b.toNat):=by intro l;induction l with|nil=>rfl|cons b l ih=>exact⟨[_],_,rfl,rfl,ih⟩
   exact this (ByteArray.data s).toList
  ·cases h
 ·exact(U2 h hs hp g r).1
theorem Qo{t tx ty e:TypeId}{i:TypeInfo}{z:Value}{dx:TypeDesc}(Am:P.underlying tx=some dx)(Ba:(∃ex,dx=.slice ex)∨dx=.string)(ht:P.underlying t=some (.slice e))(hi:P.info? e=some i)(hz:i.zero=some z)(w:World){base:Option Addr}{n cap m:Nat}{olds news:List Value}{c:Value}(hold:(Builtin.firstCells i.size n (.slice base n cap)).run P w.drew=.ok olds.toArray w.drew)(hs:CO w i.size m news c)(hg:cap<n+m)(Jc:((n+m:Nat):Int)≤9223372036854775807)(BZ:Builtin.nextslicecap (n+m) cap*i.bytes≤281474976710656):(Builtin.append_ #[t,tx] ty #[.slice base n cap,c]).run P w=.ok (.slice (some ⟨w.heap.size,0,none⟩) (n+m) (grownCap w (n+m) cap e)) (w.drew.alloc (.cells (olds.toArray++news.toArray++Builtin.zeroCells z.cells (grownCap w (n+m) cap e-(n+m))) e)):=by
 have hf:=hs.run (P:=P) (w':=w.drew) rfl;have hlen:=λw'=>hs.lenOf (P:=P) w';have hn:¬n+m≤cap:=by omega
 have LU:¬9223372036854775807<(n:Int)+(m:Int):=by omega
 have LS:¬281474976710656<Builtin.nextslicecap (n+m) cap*i.bytes:=by omega
 rcases Ba with⟨ex,rfl⟩|rfl<;>simp[Builtin.append_,dU ht,dU Am,sizeOf,typeInfo,zeroValue,hi,hz,hlen,hn,LU,LS,Question.forced,hold,hf,newRow,grownCap];all_goals congr 2;apply kC;simp
theorem Qn{t tx ty e e':TypeId}{i:TypeInfo}{dx:TypeDesc}(Am:P.underlying tx=some dx)(Ba:(∃ex,dx=.slice ex)∨dx=.string)(ht:P.underlying t=some (.slice e))(hi:P.info? e=some i)(w:World){b:Nat}{cur:Array Value}{n cap m:Nat}{news:List Value}{c:Value}(hb:w.heap[b]?=some (.cells cur e' (0,0)))(hs:CO w i.size m news c)(h1:∀u∈news,u.oneCell'=true)(hg:n+m≤cap)(BZ:n*i.size+news.length≤cur.size):(Builtin.append_ #[t,tx] ty #[.slice (some ⟨b,0,none⟩) n cap,c]).run P w=.ok (.slice (some ⟨b,0,none⟩) (n+m) cap) (w.setRow b (cur.toList.take (n*i.size)++news++cur.toList.drop (n*i.size+news.length)).toArray):=by have hf:=hs.run (P:=P) (w':=w) rfl;have hlen:=λw'=>hs.lenOf (P:=P) w';have BN:=iG P b (n*i.size) e' news 0 cur w hb (by simpa using BZ) h1;simp only[fZ]at BN;rcases Ba with⟨ex,rfl⟩|rfl<;>simp[Builtin.append_,dU ht,dU Am,sizeOf,typeInfo,hi,hlen,hg,hf,fO,BN]
theorem Mw{t tx ty e:TypeId}{i:TypeInfo}{dx:TypeDesc}(Am:P.underlying tx=some dx)(Ba:(∃ex,dx=.slice ex)∨dx=.string)(ht:P.underlying t=some (.slice e))(hi:P.info? e=some i)(w:World){a:Option Addr}{news:List Value}{c:Value}(hs:CO w i.size 0 news c):(Builtin.append_ #[t,tx] ty #[.slice a 0 0,c]).run P w=.ok (.slice a 0 0) w:=by have hf:=hs.run (P:=P) (w':=w) rfl;have hlen:=λw'=>hs.lenOf (P:=P) w';have hn:news=[]:=dZ (by have :=hs.1;omega);subst hn;rcases Ba with⟨ex,rfl⟩|rfl<;>cases a<;>simp[Builtin.append_,dU ht,dU Am,sizeOf,typeInfo,hi,hlen,hf,storeCells]
theorem Qp{t tx ty e:TypeId}{i:TypeInfo}{z:Value}(Am:P.underlying tx=some (.int .i64))(ht:P.underlying t=some (.slice e))(hi:P.info? e=some i)(hz:i.zero=some z)(w:World){a:Option Addr}{m:Int}(h0:0≤m)(h1:m*i.bytes≤140737488355328)(h2:m≤9223372036854775807):(Builtin.append_ #[t,tx] ty #[.slice a 0 0,.int .i64 m]).run P w=if m=0 then .ok (.slice a 0 0) w else .ok (.slice (some ⟨w.heap.size,0,none⟩) m.toNat (grownCap w m.toNat 0 e)) (w.drew.alloc (.cells ((if m.toNat*i.size=0 then#[]else Builtin.zeroCells z.cells m.toNat)++Builtin.zeroCells z.cells (grownCap w m.toNat 0 e-m.toNat)) e)):=by
 have hw:IntKind.i64.wrap m=m:=JS (k:=.i64) ⟨by omega,h2⟩;have hn:¬m<0:=by omega
 have hb:¬281474976710656<m*(i.bytes:Int):=by omega
 split;·rename_i hm;subst hm;have Yq:IntKind.i64.wrap 0=0:=hw;cases a<;>simp[Builtin.append_,dU ht,dU Am,sizeOf,typeInfo,zeroValue,hi,hz,Go.asInt,asIntOf,Yq,storeCells]
 ·rename_i hm;have hg:¬m.toNat≤0:=by omega
  have Xz:((m.toNat:Nat):Int)=m:=by omega
  have Jc:¬9223372036854775807<m:=by omega
  have dC:((m.toNat*i.bytes:Nat):Int)=m*i.bytes:=by rw[kN,Xz]
  have SV:¬281474976710656<Builtin.nextslicecap m.toNat 0*i.bytes:=by have :=lA (need:=m.toNat) (old:=0) (bytes:=i.bytes) (by omega) (by omega);omega
  have IX:¬m≤0:=by omega
  have Dx:max m 0=m:=by omega
  have Lb:∀w',(Builtin.firstCells i.size 0 (.slice a 0 0)).run P w'=.ok #[] w':=by intro w';cases a<;>simp[Builtin.firstCells,loadCells,loadCellsFrom]
  by_cases BR:m.toNat*i.size=0;·simp[Builtin.append_,dU ht,dU Am,sizeOf,typeInfo,zeroValue,hi,hz,Go.asInt,asIntOf,hw,hn,hb,IX,Dx,Jc,SV,Question.forced,newRow,grownCap,Lb,BR]
  ·simp[Builtin.append_,dU ht,dU Am,sizeOf,typeInfo,zeroValue,hi,hz,Go.asInt,asIntOf,hw,hn,hb,IX,Dx,Jc,SV,Question.forced,newRow,grownCap,Lb,BR]
def H0(P:Program)(tx:TypeId)(i:TypeInfo)(z:Value)(w:World)(m:Nat)(news:List Value)(c:Value):Prop:=(∃dx,P.underlying tx=some dx∧((∃ex,dx=.slice ex)∨dx=.string)∧CO w i.size m news c)∨P.underlying tx=some (.int .i64)∧∃k:Int,c=.int .i64 k∧0≤k∧k.toNat=m∧k*i.bytes≤140737488355328∧k≤9223372036854775807∧news=(Builtin.zeroCells z.cells m).toList
theorem V0{t tx ty e:TypeId}{i:TypeInfo}{z:Value}(ht:P.underlying t=some (.slice e))(hi:P.info? e=some i)(hz:i.zero=some z)(hzz:z.cells.size=i.size)(w:World){base:Option Addr}{n cap m:Nat}{olds news:List Value}{c:Value}(hold:(Builtin.firstCells i.size n (.slice base n cap)).run P w.drew=.ok olds.toArray w.drew)(hs:H0 P tx i z w m news c)(hg:cap<n+m)(Jc:((n+m:Nat):Int)≤9223372036854775807)(BZ:Builtin.nextslicecap (n+m) cap*i.bytes≤281474976710656):(Builtin.append_ #[t,tx] ty #[.slice base n cap,c]).run P w=.ok (.slice (some ⟨w.heap.size,0,none⟩) (n+m) (grownCap w (n+m) cap e)) (w.drew.alloc (.cells (olds.toArray++news.toArray++Builtin.zeroCells z.cells (grownCap w (n+m) cap e-(n+m))) e)):=by
 rcases hs with⟨dx,Am,Ba,hs⟩|⟨Am,k,rfl,h0,rfl,h1,h2,rfl⟩;·exact Qo Am Ba ht hi hz w hold hs hg Jc BZ
 ·have hw:IntKind.i64.wrap k=k:=JS (k:=.i64) ⟨by omega,h2⟩;have hn:¬k<0:=by omega
  have hb:¬281474976710656<k*(i.bytes:Int):=by omega
  have hg':¬n+k.toNat≤cap:=by omega
  have LU:¬9223372036854775807<(n:Int)+max k 0:=by omega
  have LS:¬281474976710656<Builtin.nextslicecap (n+k.toNat) cap*i.bytes:=by omega
  by_cases BR:k.toNat*i.size=0;·have e1:Builtin.zeroCells z.cells k.toNat=#[]:=iC (by rw[gV,hzz,BR]);simp[Builtin.append_,dU ht,dU Am,sizeOf,typeInfo,zeroValue,hi,hz,Go.asInt,asIntOf,hw,hn,hb,hg',LU,LS,Question.forced,newRow,grownCap,hold,e1]
  ·simp[Builtin.append_,dU ht,dU Am,sizeOf,typeInfo,zeroValue,hi,hz,Go.asInt,asIntOf,hw,hn,hb,hg',LU,LS,Question.forced,newRow,grownCap,hold,BR]
theorem Vz{t tx ty e e':TypeId}{i:TypeInfo}{z:Value}(ht:P.underlying t=some (.slice e))(hi:P.info? e=some i)(hz:i.zero=some z)(hzz:z.cells.size=i.size)(w:World){b:Nat}{cur:Array Value}{n cap m:Nat}{news:List Value}{c:Value}(hb:w.heap[b]?=some (.cells cur e' (0,0)))(hs:H0 P tx i z w m news c)(h1:∀u∈news,u.oneCell'=true)(hg:n+m≤cap)(BZ:n*i.size+news.length≤cur.size):(Builtin.append_ #[t,tx] ty #[.slice (some ⟨b,0,none⟩) n cap,c]).run P w=.ok (.slice (some ⟨b,0,none⟩) (n+m) cap) (w.setRow b (cur.toList.take (n*i.size)++news++cur.toList.drop (n*i.size+news.length)).toArray):=by
 rcases hs with⟨dx,Am,Ba,hs⟩|⟨Am,k,rfl,h0,rfl,h3,h2,rfl⟩;·exact Qn Am Ba ht hi w hb hs h1 hg BZ
 ·have hw:IntKind.i64.wrap k=k:=JS (k:=.i64) ⟨by omega,h2⟩;have hn:¬k<0:=by omega
  have hb':¬281474976710656<k*(i.bytes:Int):=by omega
  have BN:=iG P b (n*i.size) e' (Builtin.zeroCells z.cells k.toNat).toList 0 cur w hb (by simpa using BZ) h1;simp only[fZ]at BN;by_cases BR:k.toNat*i.size=0;·have e1:Builtin.zeroCells z.cells k.toNat=#[]:=iC (by rw[gV,hzz,BR]);rw[e1]at BN⊢;simp[Builtin.append_,dU ht,dU Am,sizeOf,typeInfo,zeroValue,hi,hz,Go.asInt,asIntOf,hw,hn,hb',hg,BR,fO]at BN⊢;rw[BN];rfl
  ·simp[Builtin.append_,dU ht,dU Am,sizeOf,typeInfo,zeroValue,hi,hz,Go.asInt,asIntOf,hw,hn,hb',hg,BR,fO]at BN⊢;rw[BN];rfl
theorem V2{t tx ty e:TypeId}{i:TypeInfo}{z:Value}(ht:P.underlying t=some (.slice e))(hi:P.info? e=some i)(hz:i.zero=some z)(w:World){a:Option Addr}{news:List Value}{c:Value}(hs:H0 P tx i z w 0 news c):(Builtin.append_ #[t,tx] ty #[.slice a 0 0,c]).run P w=.ok (.slice a 0 0) w:=by
 rcases hs with⟨dx,Am,Ba,hs⟩|⟨Am,k,rfl,h0,h3,h1,h2,rfl⟩;·exact Mw Am Ba ht hi w hs
 ·have hk:k=0:=by omega
  subst hk;have :=Qp (P:=P) (ty:=ty) Am ht hi hz w (a:=a) (m:=0) (mC _) (by simp) (by omega);rwa[dO rfl]at this
theorem U8{A B:List Value}{n:Nat}(h:A.length=n)(C:List Value)(k:Nat)(hk:n+B.length=k):(A++B++C).take k=A++B:=by subst hk h;rw[←dW];exact jU
def Kj(P:Program)(s:Sem Value)(E:AB)(L:AH)(T:Ty)(xs zs:List T.den):Prop:=∃(w:World)(K:AH)(row:Option Nat),E.w.grownBy w row∧(∀b,row=some b→(Obj.row T xs).has L∧b=L.b)∧(∀lo,AY P ⟨w,E.S,lo⟩ K (.row T zs))∧((Obj.row T zs).has K→(Obj.row T xs).has L∧K.b=L.b∨E.w.heap.size≤K.b)∧s.run P E.w=.ok K.v w
theorem I5(hτ:Ah P τ){ts tx ty e:TypeId}{info:TypeInfo}{z:Value}{bytes:Nat}{T:Ty}{ys:List T.den}{news:List Value}{d:Value}(ht:P.underlying ts=some (.slice e))(hi:P.info? e=some info)(hz:info.zero=some z)(hsT:info.size=T.size)(hb:info.bytes=bytes)(hzz:z.cells.size=T.size)(AW:0<T.size)(hn1:Aa E.w E.S T ys news)(hn2:H0 P tx info z E.w ys.length news d)(g:U P E objs){l k:Nat}{xs:List T.den}{L:AH}(AI:O l objs=some (.row T xs))(hL:E.loc l=some L)(hat:AY P E L (.row T xs))(hk:k≤xs.length)(h1:(k+ys.length)*bytes≤140737488355328)(h2:k+ys.length≤9223372036854775807){c0:Value}(Cl:L.Part 0 k c0):Kj P (Builtin.append_ #[ts,tx] ty #[c0,d]) E L T xs (xs.take k++ys):=by
 have Dy:=hn1.length;obtain⟨olds,ho1,ho2⟩:=Py hat (lo:=0) (m:=k) (by omega) Cl;rw[jT]at ho1;have GY:=ho1.length;have Gb:(xs.take k).length=k:=by simp;omega
 have hal:(xs.take k++ys).length=k+ys.length:=by rw[dW,Gb]
 obtain⟨CH,_,hlen,e',cs,h9,Au⟩:=id hat;have done:∀(w:World)(K:AH)(row:Option Nat),E.w.grownBy w row→(∀b,row=some b→(Obj.row T xs).has L∧b=L.b)→(∀(lo:Nat→Option AH)(hx:∀b,E.S b→E.S b∧w.heap[b]?=E.w.heap[b]?),AY P ⟨w,E.S,lo⟩ K (.row T (xs.take k++ys)))→((Obj.row T (xs.take k++ys)).has K→(Obj.row T xs).has L∧K.b=L.b∨E.w.heap.size≤K.b)→(Builtin.append_ #[ts,tx] ty #[c0,d]).run P E.w=.ok K.v w→Kj P (Builtin.append_ #[ts,tx] ty #[c0,d]) E L T xs (xs.take k++ys):=by intro w K row hw BW BJ Bv hrun;have hx:=Hl g (M:=[l]) AI hL hw BW (L':=K) λh=>absurd (by simp) h;exact⟨w,K,row,hw,BW,λlo=>BJ lo hx.S,Bv,hrun⟩
 have grow:∀(base:Option Addr)(cap:Nat),c0=.slice base k cap→k≤cap→cap<k+ys.length→Kj P (Builtin.append_ #[ts,tx] ty #[c0,d]) E L T xs (xs.take k++ys):=by
  intro base cap Se FH FJ;rw[Se,←hsT]at ho2;rw[Se]at done⊢;have hrun:=V0 (P:=P) (ty:=ty) ht hi hz (hzz.trans hsT.symm) E.w (base:=base) (n:=k) (cap:=cap) (olds:=olds) (ho2.run rfl) hn2 FJ (by omega) (lA FJ (by rw[hb];exact h1));have EU:=mD E.w (k+ys.length) cap e;have Dx:=jX E.w (k+ys.length) cap e (by unfold maxLen;omega);have hcl:(Builtin.zeroCells z.cells (grownCap E.w (k+ys.length) cap e-(k+ys.length))).size=(grownCap E.w (k+ys.length) cap e-(k+ys.length))*T.size:=by rw[gV,hzz]
  refine done (E.w.drew.alloc (.cells (olds.toArray++news.toArray++Builtin.zeroCells z.cells (grownCap E.w (k+ys.length) cap e-(k+ys.length))) e)) ⟨E.w.heap.size,some ⟨E.w.heap.size,0,none⟩,k+ys.length,grownCap E.w (k+ys.length) cap e,T.size⟩ none ⟨rfl,rfl,rfl,by simp,λj hj _=>heap_alloc_old E.w.drew _ j hj⟩ λb hb=>by cases hb
   (λlo hx=>⟨rfl,AW,hal.symm,e,_,(ho1.append hn1).mono hx,.inr ⟨_,rfl,gN E.w.drew _,by rw[hal];exact EU,by show 0<grownCap _ _ _ _;omega,Dx,?_,?_⟩⟩) (λ_=>.inr (dT _)) hrun;·simp only[iY,gI,GY,Gb,Dy,hcl,←gO];congr 1;omega
  ·simp only[jN];exact U8 rfl _ _ (by rw[hal,GY,Gb,Dy,gO])
 obtain⟨a0,Eo,N7⟩:=Cl;rcases Au with⟨ES,rfl⟩|⟨cur,B4,Bt,Ex,FS,Ie,FT,FU⟩
 ·have HT:k=0:=by simpa using hk
  subst HT;have Et:c0=.slice a0 0 0:=by rw[Eo,ES]
  by_cases hm:ys.length=0
  ·have :ys=[]:=dZ hm;subst this;have hrun:=V2 (P:=P) (ty:=ty) ht hi hz E.w (a:=a0) (news:=news) (c:=d) hn2;have Xk:({L with a:=a0}:AH).v=.slice a0 0 0:=by simp[AH.v,hlen,ES]
   refine done E.w {L with a:=a0} none ⟨rfl,rfl,rfl,dT _,λ_ _ _=>rfl⟩ (λb hb=>by cases hb) (λlo hx=>⟨CH,AW,by simpa using hlen,e,[],rfl,.inl ⟨ES,rfl⟩⟩) (λhh=>absurd ES hh) (by rw[Et,Xk];exact hrun)
  ·exact grow a0 0 Et (dT _) (by omega)
 ·have Et:c0=.slice (some ⟨L.b,0,none⟩) k L.cap:=by rw[Eo,N7 (by omega)];simp[B4,fO]
  rcases iJ L.cap (k+ys.length)with OY|EU;·exact grow _ L.cap Et (by omega) OY
  ·have BZ:k*info.size+news.length≤cur.size:=by rw[hsT,Dy,FT,←gO];exact eT _ EU
   have hrun:=Vz (P:=P) (ty:=ty) ht hi hz (hzz.trans hsT.symm) E.w Bt hn2 hn1.one EU BZ;have Bv:(Obj.row T xs).has L:=by simp only[Obj.has];omega
   refine done _ ⟨L.b,some ⟨L.b,0,none⟩,k+ys.length,L.cap,T.size⟩ (some L.b) (LR _ _ _) (λb e=>⟨Bv,by cases e;rfl⟩) (λlo hx=>⟨rfl,AW,hal.symm,e',_,(ho1.append hn1).mono hx,.inr ⟨_,rfl,kV _ _ _ _ _ _ Bt,by rw[hal];exact EU,FS,Ie,?_,?_⟩⟩) (λ_=>.inl ⟨Bv,rfl⟩) (by rw[Et];exact hrun);·simp only[gI,dW,eM,fG,eG];omega
   ·have Jg:cur.toList.take (k*T.size)=olds:=by
     obtain⟨_,_,Ye⟩:True∧True∧cs.take (k*T.size)=cur.toList.take (k*T.size):=by refine⟨trivial,trivial,?_⟩;rw[←FU,List.take_take];congr 1;have :=eT T.size hk;omega
     rw[←Ye];rcases ho2.2 with⟨a,cap,hq,X1⟩|⟨s,hq,_⟩
     ·rw[Et]at hq;cases hq;apply fP;intro j;have OC:=h9.length;have cY:=eT T.size hk;rw[Gb]at GY;by_cases hj:j<k*T.size
      ·have HT:0<k:=jW λe=>by rw[e]at hj;simp at hj
       obtain⟨ad,Xm,hc⟩:=X1 HT;cases Xm;have Sz:j<olds.length:=by omega
       have :=hc j olds[j] (dY Sz);rw[fO,Fj Bt,fE]at this;rw[eE,dO hj,←FU,eE,dO (by omega),dY Sz];simpa using this
      ·rw[fM (by simp;omega),fM (by omega)]
     ·rw[Et]at hq;cases hq
    rw[hsT,Jg];exact U8 rfl _ _ (by rw[hal,GY,Gb,Dy,gO])
theorem Mx(hτ:Ah P τ){ts tx ty e:TypeId}{info:TypeInfo}{z:Value}{bytes:Nat}{T:Ty}{ys:List T.den}{news:List Value}{d:Value}(ht:P.underlying ts=some (.slice e))(hi:P.info? e=some info)(hz:info.zero=some z)(hsT:info.size=T.size)(hb:info.bytes=bytes)(hzz:z.cells.size=T.size)(AW:0<T.size)(hn1:Aa E.w E.S T ys news)(hn2:H0 P tx info z E.w ys.length news d)(g:U P E objs){l k:Nat}{xs:List T.den}{L:AH}(AI:O l objs=some (.row T xs))(hL:E.loc l=some L)(hat:AY P E L (.row T xs))(hk:k≤xs.length)(h1:(k+ys.length)*bytes≤140737488355328)(h2:k+ys.length≤9223372036854775807){p:Option Prop}{c0:Value}(Cl:L.Part 0 k c0):Ao P (Builtin.append_ #[ts,tx] ty #[c0,d]) E objs ⟨p,.osl l,some (l,.row T (xs.take k++ys),true)⟩:=by obtain⟨w,K,row,hw,BW,BJ,Bv,hrun⟩:=I5 (ty:=ty) hτ ht hi hz hsT hb hzz AW hn1 hn2 g AI hL hat hk h1 h2 Cl;have hp:=U.put g (mv:=true) (o':=.row T (xs.take k++ys)) (L':=K) AI hL hw BW (λh=>by cases h) (BJ _) Bv;exact⟨_,K.v,hrun,hp.1,hp.2,.osl (A6 _ _ _ _)⟩
theorem Px{l:Nat}{L:AH}{T:Ty}{xs ys:List T.den}{vs:List Value}{lo:Nat}(g:U P E objs)(hl:O l objs=some (.row T xs))(hL:E.loc l=some L)(hat:AY P E L (.row T xs))(Dj:lo+ys.length≤xs.length)(AU:0<ys.length∨L.cap≠0)(hv:Aa E.w E.S T ys vs):∃w,(storeCells ⟨L.b,lo*T.size,none⟩ vs).run P E.w=.ok () w∧U P (E.setL w l L) (edit objs (some (l,.row T (xs.take lo++ys++xs.drop (lo+ys.length)),false)))∧Ak E objs (E.setL w l L) (edit objs (some (l,.row T (xs.take lo++ys++xs.drop (lo+ys.length)),false))) []:=by
 obtain⟨CH,AW,hlen,e,cs,h9,Au⟩:=id hat;rcases Au with⟨Cl,rfl⟩|⟨cur,B4,Bt,Ex,FS,Ie,FT,FU⟩
 ·simp only[eC]at Dj;rcases AU with h|h;·omega
  ·exact absurd Cl h
 ·have Ln:=hv.length;have hcl:=h9.length;have hmul:(lo+ys.length)*T.size≤xs.length*T.size:=eT _ Dj;have YO:xs.length*T.size≤L.cap*T.size:=eT _ Ex;have Xn:(lo+ys.length)*T.size=lo*T.size+ys.length*T.size:=gO _ _ _;have BZ:lo*T.size+vs.length≤cur.size:=by rw[Ln,FT];omega
  have BN:=iG P L.b (lo*T.size) e vs 0 cur E.w Bt (by simpa using BZ) hv.one;simp only[fZ]at BN;have OZ:(xs.take lo++ys++xs.drop (lo+ys.length)).length=xs.length:=by simp;omega
  have hcells:Aa E.w E.S T (xs.take lo++ys++xs.drop (lo+ys.length)) (cs.take (lo*T.size)++vs++cs.drop ((lo+ys.length)*T.size)):=((h9.take lo).append hv).append (h9.drop _);have BJ:=Pw (mv:=false) (ys:=xs.take lo++ys++xs.drop (lo+ys.length)) (cur':=cur.toList.take (lo*T.size)++vs++cur.toList.drop (lo*T.size+vs.length)) g hl hL hat FS (by omega) (λ_=>OZ) (by
   rw[OZ];refine Eq.mp ?_ hcells;congr 1;rw[←FU,Xn];apply fP;intro j;have Dz:=EM (A:=cur.toList) (vs:=vs) (o:=lo*T.size) (by simpa using BZ) j;have Fx:=EM (A:=cur.toList.take (xs.length*T.size)) (vs:=vs) (o:=lo*T.size) (by rw[Ln];simp;omega) j;rw[Ln]at Dz Fx;rw[Fx,eE,eE,Ln,Dz];repeat' split
   all_goals first|rfl|omega) (by simp only[dW,eM,fG,eG];omega);have Xh:({L with len:=(xs.take lo++ys++xs.drop (lo+ys.length)).length}:AH)=L:=by rw[OZ,←hlen]
  rw[Xh]at BJ;exact⟨_,BN,BJ.1,BJ.2⟩
theorem V1(hτ:Ah P τ){ts tx ty e:TypeId}{dx:TypeDesc}{info:TypeInfo}{T:Ty}{ys:List T.den}{news:List Value}{d:Value}(Am:P.underlying tx=some dx)(Ba:(∃ex,dx=.slice ex)∨dx=.string)(ht:P.underlying ts=some (.slice e))(hi:P.info? e=some info)(hsT:info.size=T.size)(hn1:Aa E.w E.S T ys news)(hn2:CO E.w info.size ys.length news d)(g:U P E objs){l k:Nat}{xs:List T.den}{L:AH}(AI:O l objs=some (.row T xs))(hL:E.loc l=some L)(hat:AY P E L (.row T xs))(hk:k+ys.length≤xs.length){p:Option Prop}{c0:Value}(Cl:L.Part 0 k c0):Ao P (Builtin.append_ #[ts,tx] ty #[c0,d]) E objs ⟨p,.osp l 0 (k+ys.length),some (l,.row T (xs.take k++ys++xs.drop (k+ys.length)),false)⟩:=by
 obtain⟨a0,Eo,N7⟩:=Cl;obtain⟨CH,AW,hlen,e',cs,h9,Au⟩:=id hat;rcases Au with⟨ES,rfl⟩|⟨cur,B4,Bt,Ex,FS,Ie,FT,FU⟩
 ·simp only[eC]at hk;have HT:k=0:=by omega
  have :ys=[]:=dZ (by omega);subst HT this;have Et:c0=.slice a0 0 0:=by rw[Eo,ES]
  have hrun:=Mw (P:=P) (ty:=ty) Am Ba ht hi E.w (a:=a0) (news:=news) (c:=d) (by simpa using hn2);have hp:=U.put g (mv:=false) (L':=L) (o':=.row T []) (w:=E.w) (row:=none) AI hL ⟨rfl,rfl,rfl,dT _,λ_ _ _=>rfl⟩ (λb hb=>by cases hb) (λ_=>rfl) (by
   refine hat.keep (⟨λb hb=>⟨hb,rfl⟩,λj K _ hK=>?_⟩:BE E (E.setL E.w l L) []) λ_=>rfl;by_cases e:j=l;·subst e;rw[hL]at hK;cases hK;exact A6 _ _ _ _
   ·rw[Ax _ _ _ e];exact hK) λhh=>.inl ⟨hh,rfl⟩;exact⟨E.setL E.w l L,.slice a0 0 0,by rw[Et];exact hrun,by simpa using hp.1,by simpa using hp.2,.osp (A6 _ _ _ _) ⟨a0,by simp[ES],λh=>absurd ES h⟩⟩
 ·have Dy:=hn1.length;have Et:c0=.slice (some ⟨L.b,0,none⟩) k L.cap:=by rw[Eo,N7 (by omega)];simp[B4,fO]
  have BZ:k*info.size+news.length≤cur.size:=by rw[hsT,Dy,FT,←gO];exact eT _ (by omega)
  have hrun:=Qn (P:=P) (ty:=ty) Am Ba ht hi E.w Bt hn2 hn1.one (by omega:k+ys.length≤L.cap) BZ;obtain⟨w,BN,g1,g2⟩:=Px (lo:=k) g AI hL hat hk (.inr (by omega)) hn1;have Oi:=iG P L.b (k*T.size) e' news 0 cur E.w Bt (by rw[←hsT];simpa using BZ) hn1.one;simp only[fZ]at Oi;rw[BN]at Oi;cases Oi;refine⟨_,.slice (some ⟨L.b,0,none⟩) (k+ys.length) L.cap,?_,g1,g2,.osp (A6 _ _ _ _) ⟨some ⟨L.b,0,none⟩,by simp,λ_=>by simp[B4,fO]⟩⟩;rw[Et,hrun,hsT];rfl
theorem VX(z:Array Value)(n:Nat)(c:Array Value)(hz:0<z.size):(Builtin.zeroCells z n++c).toList.take (n*z.size)=(List.replicate n z.toList).flatten:=by
 have h:=PB (z:=z) (n:=n) (c:=n) hz (dT _);have e:madeCells z (n*z.size)=Builtin.zeroCells z n:=rfl;have hs:(Builtin.zeroCells z n).toList.length=n*z.size:=by rw[eG,gV]
 rw[e,gW (by omega)]at h;rw[jN,←hs,jU,h]
theorem VW{tx:TypeId}{i:TypeInfo}{z:Value}{w w0:World}{S:Nat→Prop}{T:Ty}{m:Int}{k:Nat}(Am:P.underlying tx=some (.int .i64))(h0:0≤m)(h1:(k+m.toNat)*i.bytes≤140737488355328)(h2:k+m.toNat≤9223372036854775807)(hzz:z.cells.size=T.size)(AW:0<T.size)(hc:Al w S T T.dflt z.cells.toList):Aa w S T (List.replicate m.toNat T.dflt) (Builtin.zeroCells z.cells m.toNat).toList∧H0 P tx i z w0 (List.replicate m.toNat T.dflt).length (Builtin.zeroCells z.cells m.toNat).toList (.int .i64 m):=by
 have hr:=Ip hc m.toNat;have ht:=VX z.cells m.toNat #[] (by omega);rw[Array.append_empty,gW (by rw[eG,gV];exact dT _)]at ht;rw[←ht]at hr;refine⟨hr,.inr ⟨Am,m,rfl,h0,(eU ..).symm,?_,by omega,by rw[eU]⟩⟩;have hm:((m.toNat:Nat):Int)=m:=by omega
 have :=eO (eT i.bytes (Nat.le_add_left m.toNat k)) h1;rw[←hm,←kN];omega
theorem Wl(hτ:Ah P τ){ts tx ty:TypeId}{s x:V}{out:AT}(h:IA τ os n ts tx s x=some out)(hs:BV os objs)(ho:Ae out.ob)(g:U P E objs)(hf:E.loc n=none){c d:Value}(rs:N P E s c)(rx:N P E x d):Ao P (Builtin.append_ #[ts,tx] ty #[c,d]) E objs out:=by
 unfold IA at h;split at h
 ·rename_i e sz by_ zero co Ai;have ht:P.underlying ts=some (.slice e):=(hτ ts _ Ai).kind;split at h
  ·rename_i k size bytes zero' T hei;have hei:=hτ e _ hei;obtain⟨hTs,AW,BR⟩:=hei.code T rfl;have hTs:T.size=size:=hTs;have AW:0<T.size:=by rw[hTs];exact AW
   obtain⟨info,z,hi,AS,hb,hz,BS,B5⟩:=hei.info;have AS:info.size=size:=AS;have hb:info.bytes=bytes:=hb;have B5:z.cells.size=size:=B5;have hzz:z.cells.size=T.size:=by rw[B5,hTs]
   have hsT:info.size=T.size:=by rw[AS,hTs]
   split at h
   ·rename_i he;obtain⟨dx,Am,Ba⟩:∃dx,P.underlying tx=some dx∧((∃ex,dx=.slice ex)∨dx=.string):=by
     unfold P6 at he;split at he;·rename_i h;exact⟨_,(hτ tx _ h).kind,.inl ⟨_,rfl⟩⟩
     ·rename_i h;exact⟨_,(hτ tx _ h).kind,.inr rfl⟩
     ·cases he
    split at h
    ·rename_i ys p CW;have src:Ae p→∃cs,Aa E.w E.S T ys cs∧CO E.w info.size ys.length cs d:=λhp=>by rw[hsT];exact U1 CW hs hp g rx
     have conj_inv:∀{q:Prop},D7 q p→Ae p∧q:=λ{q}h=>by cases p with|none=>exact⟨trivial,h⟩|some r=>exact h
     split at h;·cases h;obtain⟨hp,h1,h2⟩:=conj_inv ho;obtain⟨news,hn1,hn2⟩:=src hp;have Dy:=hn1.length;cases rs with|nils a=>
      by_cases hm:ys.length=0;·have :ys=[]:=dZ hm;subst this;have hrun:=Mw (P:=P) (ty:=ty) Am Ba ht hi E.w (a:=a) (news:=news) (c:=d) (by simpa using hn2);have hp:=U.push g (w:=E.w) (L:=⟨0,a,0,0,T.size⟩) (o:=.row T []) hf ⟨rfl,rfl,rfl,dT _,λ_ _ _=>rfl⟩ ⟨rfl,AW,rfl,e,[],rfl,.inl ⟨rfl,rfl⟩⟩ λhh=>absurd rfl hh;exact⟨E.setL E.w n ⟨0,a,0,0,T.size⟩,_,hrun,hp.1,hp.2,.osl (A6 _ _ _ _)⟩
      ·have hrun:=Qo (P:=P) (ty:=ty) Am Ba ht hi hz E.w (base:=a) (n:=0) (cap:=0) (olds:=[]) (by cases a<;>simp[Builtin.firstCells,loadCells,loadCellsFrom]) hn2 (by omega) (by omega) (lA (by omega) (by rw[fE,hb];exact h1));simp only[fE]at hrun;have EU:=mD E.w ys.length 0 e;have Dx:=jX E.w ys.length 0 e (by unfold maxLen;omega);obtain⟨E',hw,g1,g2,g3⟩:=KQ (cap:=grownCap E.w ys.length 0 e) g hf (w:=E.w.drew.alloc (.cells (([]:List Value).toArray++news.toArray++Builtin.zeroCells z.cells (grownCap E.w ys.length 0 e-ys.length)) e)) ⟨rfl,rfl,rfl,by simp,λj hj _=>heap_alloc_old E.w.drew _ j hj⟩ (gN E.w.drew _) AW EU Dx (by simp only[iY,gI,eC,Dy,gV,hzz,fE,←gO];congr 1;omega) hn1 (by simp only[jN,hG];rw[←Dy];exact jU);exact⟨E',_,by rw[hw];exact hrun,g1,g2,.osl g3⟩
     ·rename_i l;split at h
      ·rename_i t xs hcs;split at h;·rename_i hT';subst hT';cases h;obtain⟨hp,h1,h2⟩:=conj_inv ho;obtain⟨news,hn1,hn2⟩:=src hp;obtain⟨L,hL,AI,hat⟩:=g.get hs hcs;obtain⟨K,hK,rfl⟩:=DB rs;rw[hL]at hK;cases hK;have :=Mx (ty:=ty) (p:=some (D7 ((xs.length+ys.length)*bytes≤140737488355328∧xs.length+ys.length≤9223372036854775807) p)) hτ ht hi hz hsT hb hzz AW hn1 (.inl ⟨dx,Am,Ba,hn2⟩) g AI hL hat (dT _) h1 h2 (Hk hat);rw[eD]at this;exact this
       ·cases h
      ·cases h
     ·rename_i l k;split at h
      ·rename_i t xs hcs;split at h
       ·rename_i hT';subst hT';split at h;·cases h;obtain⟨hp,hk⟩:=conj_inv ho;obtain⟨news,hn1,hn2⟩:=src hp;obtain⟨L,hL,AI,hat⟩:=g.get hs hcs;obtain⟨K,hK,EI⟩:=Ez rs;rw[hL]at hK;cases hK;exact V1 (ty:=ty) hτ Am Ba ht hi hsT hn1 hn2 g AI hL hat hk EI
        cases h;obtain⟨hk,ho⟩:_∧_:=ho;obtain⟨hp,h1,h2⟩:=conj_inv ho;obtain⟨news,hn1,hn2⟩:=src hp;obtain⟨L,hL,AI,hat⟩:=g.get hs hcs;obtain⟨K,hK,EI⟩:=Ez rs;rw[hL]at hK;cases hK;exact Mx (ty:=ty) hτ ht hi hz hsT hb hzz AW hn1 (.inl ⟨dx,Am,Ba,hn2⟩) g AI hL hat hk h1 h2 EI
       ·cases h
      ·cases h
     ·cases h
    ·cases h
   ·split at h
    ·rename_i Am;have Am:P.underlying tx=some (.int .i64):=(hτ tx _ Am).kind;split at h
     ·rename_i m0;obtain⟨m,IX⟩:∃m:Int,m=m0:=⟨m0,rfl⟩;subst IX;have hd:=rx.int_inv;subst hd;split at h;·cases h;obtain⟨h0,h1,h2⟩:0≤m∧m*bytes≤140737488355328∧m≤9223372036854775807:=ho;cases rs with|nils a=>
       have hrun:=Qp (P:=P) (ty:=ty) Am ht hi hz E.w (a:=a) h0 (by rw[hb];exact h1) h2;split at hrun;·rename_i hm;subst hm;have hp:=U.push g (w:=E.w) (L:=⟨0,a,0,0,T.size⟩) (o:=.row T []) hf ⟨rfl,rfl,rfl,dT _,λ_ _ _=>rfl⟩ ⟨rfl,AW,rfl,e,[],rfl,.inl ⟨rfl,rfl⟩⟩ λhh=>absurd rfl hh;exact⟨E.setL E.w n ⟨0,a,0,0,T.size⟩,_,hrun,hp.1,hp.2,.osl (A6 _ _ _ _)⟩
       ·rename_i hm;have EU:=mD E.w m.toNat 0 e;have Dx:=jX E.w m.toNat 0 e (by unfold maxLen;omega);have IY:¬m.toNat*info.size=0:=by rw[hsT];have :=Nat.mul_pos (show 0<m.toNat by omega) AW;omega
        rw[dK IY]at hrun;obtain⟨E',hw,g1,g2,g3⟩:=KQ (xs:=List.replicate m.toNat T.dflt) (cap:=grownCap E.w m.toNat 0 e) g hf (w:=E.w.drew.alloc (.cells (Builtin.zeroCells z.cells m.toNat++Builtin.zeroCells z.cells (grownCap E.w m.toNat 0 e-m.toNat)) e)) ⟨rfl,rfl,rfl,by simp,λj hj _=>heap_alloc_old E.w.drew _ j hj⟩ (gN E.w.drew _) AW (by simpa using EU) Dx (by simp only[iY,gV,hzz,←gO];congr 1;omega) (Ip (BR E.w E.S) m.toNat) (by rw[eU,←hzz,VX _ _ _ (by omega),←BS]);refine⟨E',_,by rw[hw];exact hrun,g1,g2,?_⟩;rw[eU]at g3;exact .osl g3
      ·rename_i l;split at h
       ·rename_i t xs hcs;split at h;·rename_i hT';subst hT';cases h;obtain⟨h0,h1,h2⟩:0≤m∧(xs.length+m.toNat)*bytes≤140737488355328∧xs.length+m.toNat≤9223372036854775807:=ho;obtain⟨L,hL,AI,hat⟩:=g.get hs hcs;obtain⟨K,hK,rfl⟩:=DB rs;rw[hL]at hK;cases hK;obtain⟨hn1,hn2⟩:=VW Am h0 (by rw[hb];exact h1) h2 hzz AW (BS▸BR E.w E.S) (w0:=E.w);have :=Mx (ty:=ty) (p:=some (0≤m∧(xs.length+m.toNat)*bytes≤140737488355328∧xs.length+m.toNat≤9223372036854775807)) hτ ht hi hz hsT hb hzz AW hn1 hn2 g AI hL hat (dT _) (by rw[eU];exact h1) (by rw[eU];exact h2) (Hk hat);rw[eD]at this;exact this
        ·cases h
       ·cases h
      ·cases h
     ·cases h
    ·cases h
  ·cases h
 ·cases h
theorem Wj(hτ:Ah P τ){ts tx ty:TypeId}{s x:V}{ob:Option Prop}{v:V}{l:Nat}{T:Ty}{zs:List T.den}(h:IA τ os n ts tx s x=some ⟨ob,v,some (l,.row T zs,true)⟩)(hs:BV os objs)(ho:Ae ob)(g:U P E objs){c d:Value}(rs:N P E s c)(rx:N P E x d):v=.osl l∧∃L xs,O l objs=some (.row T xs)∧E.loc l=some L∧Kj P (Builtin.append_ #[ts,tx] ty #[c,d]) E L T xs zs:=by
 unfold IA at h;split at h
 ·rename_i e sz by_ zero co Ai;have ht:P.underlying ts=some (.slice e):=(hτ ts _ Ai).kind;split at h
  ·rename_i k size bytes zero' T hei;have hei:=hτ e _ hei;obtain⟨hTs,AW,BR⟩:=hei.code T rfl;have hTs:T.size=size:=hTs;have AW:0<T.size:=by rw[hTs];exact AW
   obtain⟨info,z,hi,AS,hb,hz,BS,B5⟩:=hei.info;have AS:info.size=size:=AS;have hb:info.bytes=bytes:=hb;have B5:z.cells.size=size:=B5;have hzz:z.cells.size=T.size:=by rw[B5,hTs]
   have hsT:info.size=T.size:=by rw[AS,hTs]
   split at h
   ·rename_i he;obtain⟨dx,Am,Ba⟩:∃dx,P.underlying tx=some dx∧((∃ex,dx=.slice ex)∨dx=.string):=by
     unfold P6 at he;split at he;·rename_i h;exact⟨_,(hτ tx _ h).kind,.inl ⟨_,rfl⟩⟩
     ·rename_i h;exact⟨_,(hτ tx _ h).kind,.inr rfl⟩
     ·cases he
    split at h
    ·rename_i ys p CW;have src:Ae p→∃cs,Aa E.w E.S T ys cs∧CO E.w info.size ys.length cs d:=λhp=>by rw[hsT];exact U1 CW hs hp g rx
     have conj_inv:∀{q:Prop},D7 q p→Ae p∧q:=λ{q}h=>by cases p with|none=>exact⟨trivial,h⟩|some r=>exact h
     split at h;·cases h
     ·rename_i l;split at h
      ·rename_i t xs hcs;split at h;·rename_i hT';subst hT';cases h;obtain⟨hp,h1,h2⟩:=conj_inv ho;obtain⟨news,hn1,hn2⟩:=src hp;obtain⟨L,hL,AI,hat⟩:=g.get hs hcs;obtain⟨K,hK,rfl⟩:=DB rs;rw[hL]at hK;cases hK;have :=I5 (ty:=ty) hτ ht hi hz hsT hb hzz AW hn1 (.inl ⟨dx,Am,Ba,hn2⟩) g AI hL hat (dT _) h1 h2 (Hk hat);rw[eD]at this;exact⟨rfl,L,xs,AI,hL,this⟩
       ·cases h
      ·cases h
     ·rename_i l k;split at h
      ·rename_i t xs hcs;split at h
       ·rename_i hT';subst hT';split at h;·cases h
        cases h;obtain⟨hk,ho⟩:_∧_:=ho;obtain⟨hp,h1,h2⟩:=conj_inv ho;obtain⟨news,hn1,hn2⟩:=src hp;obtain⟨L,hL,AI,hat⟩:=g.get hs hcs;obtain⟨K,hK,EI⟩:=Ez rs;rw[hL]at hK;cases hK;exact⟨rfl,L,xs,AI,hL,I5 (ty:=ty) hτ ht hi hz hsT hb hzz AW hn1 (.inl ⟨dx,Am,Ba,hn2⟩) g AI hL hat hk h1 h2 EI⟩
       ·cases h
      ·cases h
     ·cases h
    ·cases h
   ·split at h
    ·rename_i Am;have Am:P.underlying tx=some (.int .i64):=(hτ tx _ Am).kind;split at h
     ·rename_i m0;obtain⟨m,IX⟩:∃m:Int,m=m0:=⟨m0,rfl⟩;subst IX;have hd:=rx.int_inv;subst hd;split at h;·cases h
      ·rename_i l;split at h
       ·rename_i t xs hcs;split at h;·rename_i hT';subst hT';cases h;obtain⟨h0,h1,h2⟩:0≤m∧(xs.length+m.toNat)*bytes≤140737488355328∧xs.length+m.toNat≤9223372036854775807:=ho;obtain⟨L,hL,AI,hat⟩:=g.get hs hcs;obtain⟨K,hK,rfl⟩:=DB rs;rw[hL]at hK;cases hK;obtain⟨hn1,hn2⟩:=VW Am h0 (by rw[hb];exact h1) h2 hzz AW (BS▸BR E.w E.S) (w0:=E.w);have :=I5 (ty:=ty) hτ ht hi hz hsT hb hzz AW hn1 hn2 g AI hL hat (dT _) (by rw[eU];exact h1) (by rw[eU];exact h2) (Hk hat);rw[eD]at this;exact⟨rfl,L,xs,AI,hL,this⟩
        ·cases h
       ·cases h
      ·cases h
     ·cases h
    ·cases h
  ·cases h
 ·cases h
end
end Go.Proofs.YtldikbpclaeajaaDoor
