/- Part of a proof that a law of the program holds for every input: how abstract states follow the program. No conditions. -/
import Derived.Below
import Derived.IntWalk
import Derived.KernelRfl
import Derived.Laws.AppendOwn
import Derived.Laws.BytesString
import Derived.Laws.MakeOwn
import Derived.Lib.AppendIntMem
import Derived.Lib.AppendStr
import Derived.OrdersIn
import Derived.RangeFuncLeaves
namespace Go.Proofs.YtgpdnmfpgkkgcaaGreatDoor
open Go
set_option linter.defProp false
def ZGA:=@if_neg
def ZGE:=@if_pos
def ZGG:=@List.getD_eq_getElem?_getD
def ZGI:=@List.length_append
def ZGJ:=@Nat.eq_of_beq_eq_true
def ZGL:=@List.length_cons
def ZGM:=@List.length_map
def ZGN:=@List.take_length
def ZGP:=@List.length_take
def ZGR:=@Nat.le_refl
def ZGS:=@List.length_nil
def ZGU:=@List.getElem?_eq_getElem
def ZGV:=@Array.getD_eq_getD_getElem?
def ZGW:=@Bool.and_eq_true
def ZGX:=@Go.run_underlying
def ZGY:=@List.eq_nil_of_length_eq_zero
def ZGa:=@List.mem_append
def ZGd:=@Nat.le_trans
def ZGg:=@List.getElem?_take
def ZGh:=@Bool.false_eq_true
def ZGi:=@List.map_cons
def ZGj:=@List.length_replicate
def ZGk:=@Nat.le_of_ble_eq_true
def ZGm:=@Go.Result.andThen_ok
def ZGn:=@Array.length_toList
def ZGo:=@Option.map_eq_some_iff
def ZGq:=@Bool.not_true
def ZGr:=@congrArg
def ZGu:=@Nat.zero_add
def ZGx:=@not_or
def ZGy:=@List.append_assoc
def ZG1:=@List.length_drop
def ZG3:=@List.foldl_cons
def ZG4:=@List.length_range
def ZG5:=@List.getElem?_append_right
def ZG6:=@Ne.symm
def ZG7:=@Go.Sem.run_bind
def ZG8:=@List.nil_append
def ZHB:=@Nat.mul_le_mul_right
def ZHF:=@Array.getElem?_eq_getElem
def ZHG:=@Array.getElem?_toList
def ZHK:=@List.getElem?_append_left
def ZHL:=@List.getElem?_eq_none
def ZHM:=@if_false
def ZHO:=@List.getElem?_map
def ZHS:=@Nat.succ_mul
def ZHV:=@Go.World.grownBy_alloc
def ZHX:=@List.ext_getElem?
def ZHZ:=@Nat.ne_of_beq_eq_false
def ZHa:=@if_true
def ZHd:=@Go.Addr.add_lit
def ZHe:=@Go.Sem.run_pure
def ZHf:=@List.mem_of_getElem?
def ZHj:=@Nat.lt_or_ge
def ZHl:=@Option.some.injEq
def ZHr:=@List.length_set
def ZHt:=@List.take_of_length_le
def ZHu:=@Nat.zero_le
def ZHv:=@List.take_append_drop
def ZHw:=@Nat.add_zero
def ZHy:=@List.getElem?_drop
def ZH4:=@Int.le_refl
def ZIB:=@Nat.lt_of_lt_of_le
def ZIG:=@Go.heap_alloc_new
def ZII:=@List.size_toArray
def ZIJ:=@List.drop_succ_cons
def ZIK:=@Int.mul_comm
def ZIL:=@List.drop_of_length_le
def ZIM:=@Nat.mul_one
def ZIN:=@Prod.mk.injEq
def ZIP:=@Nat.add_mul
def ZIS:=@List.getElem?_set_ne
def ZIV:=@List.flatten_cons
def ZIY:=@List.getElem?_range
def ZIe:=@Option.getD_some
def ZIf:=@Go.size_zeroCells
def ZIh:=@List.cons.injEq
def ZIq:=@Nat.lt_succ_self
def ZIv:=@List.replicate_succ
def ZIw:=@List.take_succ_cons
def ZIy:=@Array.eq_empty_of_size_eq_zero
def ZI9:=@Go.run_storeCells_at
def ZJC:=@Iff.rfl
def ZJL:=@Nat.le_succ
def ZJM:=@Array.mapM_eq_mapM_toList
def ZJR:=@Nat.zero_mul
def ZJS:=@Array.size_append
def ZJd:=@Array.ext'
def ZJg:=@Int.natCast_mul
def ZJn:=@Array.toList_append
def ZJs:=@List.drop_zero
def ZJt:=@List.take_left
def ZJu:=@List.take_zero
def ZJ0:=@Nat.pos_of_ne_zero
def ZJ1:=@Go.grownCap_le_maxLen
def ZJ7:=@List.getElem?_set
def ZKE:=@List.getElem_mem
def ZKV:=@Go.setRow_heap
def ZKb:=@List.take_take
def ZKc:=@Go.growslice_fits
def ZKd:=@Go.heap_alloc_old
def ZKe:=@Array.getElem?_range
def ZKf:=@Array.toArray_toList
def ZKp:=@Nat.add_assoc
def ZKw:=@Array.foldl_toList
def ZKx:=@Array.getElem?_map
set_option linter.unusedSimpArgs false
set_option linter.unusedVariables false
theorem WG{α:Type}:∀(q:Ask α)(w:World),w.drawn≤(w.ask q).2.drawn
 |.done a,w=>by simp[World.ask]|.ask what range k,w=>by
  simp only[World.ask];split;·exact WG _ _
  ·exact ZGd (ZJL _) (WG _ {w with drawn:=w.drawn+1})
theorem ZEZ(w:World)(c:Sys):w.drawn≤(w.sys c).2.drawn:=by
 have h:=WG (Kernel.perform c w.os) w;unfold World.sys;split;·exact ZGR _
 ·rename_i r os w' he;rw[he]at h;exact h
theorem ZE4{p:Program}{w w':World}{a:Addr}{u:TypeId}{k:Addr}{v:Value}{at_:Bool}{l:List Addr}(h:w.viewStore p a u k v at_=.ok (w',l)):w'.drawn=w.drawn:=by
 simp only[World.viewStore,bind,Except.bind,pure,Except.pure]at h;repeat' split at h
 all_goals first|(cases h;rfl;done)|(cases h;done)|skip
theorem ZAd{p:Program}{w w':World}{a:Addr}{v:Value}{b:Bool}{l:List Addr}(h:w.farStore p a v b=.ok (w',l)):w'.drawn=w.drawn:=by
 unfold World.farStore at h;split at h
 ·split at h;·rename_i r hr;cases h;exact ZE4 hr
  ·cases h
 ·cases h
theorem VJ{α:Type}{p:Program}:∀(s:Sem α)(w:World)(a:α)(w':World),s.run p w=.ok a w'→w.drawn≤w'.drawn:=by intro s;induction s with
 |pure x=>intro w a w' h;simp only[Sem.run]at h;cases h;exact ZGR _|load m ad k ih=>
  intro w a w' h;simp only[Sem.run]at h;split at h;·exact ih _ _ _ _ h
  ·split at h;·exact ih _ _ _ _ h
   ·cases h|store m ad v k ih=>intro w a w' h;cases v<;>simp only[Sem.run]at h<;>first
   |(cases h;done)
   | (split at h
      ·split at h;·cases h
       ·exact ih (w.setCell ad _) _ _ h
      ·split at h;·rename_i w1 l1 hf;exact ZGd (Nat.le_of_eq (ZAd hf).symm) (ih w1 _ _ h)
       ·cases h)
 |new o k ih=>intro w a w' h;simp only[Sem.run]at h;exact ih _ {w with heap:=w.heap.push o} _ _ h|shape r k ih=>intro w a w' h;simp only[Sem.run]at h;exact ih _ _ _ _ h|freeze ad n k ih=>
  intro w a w' h;simp only[Sem.run]at h;have :=ih (w.freeze ad n) _ _ h;have e:(w.freeze ad n).drawn=w.drawn:=by unfold World.freeze;split<;>rfl
  omega|frozen ad k ih=>intro w a w' h;simp only[Sem.run]at h;exact ih _ _ _ _ h|getObj r k ih=>
  intro w a w' h;simp only[Sem.run]at h;split at h;·cases h
  ·exact ih _ _ _ _ h
  ·cases h|setObj r o k ih=>
  intro w a w' h;simp only[Sem.run]at h;split at h;·cases h
  ·exact ih {w with heap:=w.heap.setIfInBounds r o} _ _ h
  ·cases h|choose q k ih=>
  intro w a w' h;simp only[Sem.run]at h;split at h;·exact ih _ _ _ _ h
  ·exact ZGd (ZJL _) (ih _ _ _ _ h)|sys c k ih=>intro w a w' h;simp only[Sem.run]at h;exact ZGd (ZEZ w c) (ih _ _ _ _ h)|program k ih=>intro w a w' h;simp only[Sem.run]at h;exact ih _ _ _ _ h|mark m k ih=>intro w a w' h;simp only[Sem.run]at h;exact ih w _ _ h|halt h0=>intro w a w' h;simp only[Sem.run]at h;cases h
inductive Ty where|int(k:IntKind)|bool|str|sl(t:Ty)|pair(a b:Ty)|unit deriving DecidableEq
@[reducible]def Ty.den:Ty→Type|.int _=>Int|.bool=>Bool|.str=>ByteArray|.sl t=>List t.den|.pair a b=>a.den×b.den|.unit=>Unit
def Ty.size:Ty→Nat|.int _|.bool|.str|.sl _=>1|.pair a b=>a.size+b.size|.unit=>0
def Ty.dflt:(t:Ty)→t.den|.int _=>(0:Int)|.bool=>false|.str=>ByteArray.empty|.sl _=>[]|.pair a b=>(a.dflt,b.dflt)|.unit=>()
@[reducible]def Bq:List Ty→Type|[]=>Unit|[t]=>t.den|t::u::l=>t.den×Bq (u::l)
inductive V where|any|d(t:Ty)(x:t.den)|nilp|nilf|nils|nilm|fn(f:Fn)(fst caps:List V)|agg(cs:List V)|tup(vs:List V)|er(cs:List V)|ref(l off:Nat)|rref(l i off:Nat)|osl(l:Nat)|osp(l lo n:Nat)|map(l:Nat)|when(b:Bool)(v:V)|opt(b:Bool)(v:V)|pf(ts rs:List Ty)(pre:Bq ts→Prop)(f:Bq ts→Bq rs)|yl(l:Nat)|bsl(l n:Nat)
def flat:(t:Ty)→t.den→List V|.int k,x=>[.d (.int k) x]|.bool,x=>[.d .bool x]|.str,x=>[.d .str x]|.sl t,x=>[.d (.sl t) x]|.pair a b,x=>flat a x.1++flat b x.2|.unit,_=>[]
theorem TX:∀(t:Ty)(x:t.den),(flat t x).length=t.size|.int _,_|.bool,_|.str,_|.sl _,_|.unit,_=>rfl|.pair a b,x=>by simp only[flat,ZGI,TX a,TX b,Ty.size]
def BZ(w:World)(S:Nat→Prop):(t:Ty)→t.den→List Value→Prop|.int k,n,cs=>cs=[.int k n]|.bool,b,cs=>cs=[.bool b]|.str,s,cs=>cs=[.string s]|.sl t,l,cs=>∃a c,cs=[.slice a (List.length (α:=t.den) l) c]∧(List.length (α:=t.den) l≤c∧c≤maxLen)∧(l≠([]:List t.den)→∃b off,a=some ⟨b,off,none⟩∧S b∧∀i(x:t.den),(l:List t.den)[i]?=some x→∃cs',BZ w S t x cs'∧∀j u,cs'[j]?=some u→w.cell? ⟨b,off+i*t.size+j,none⟩=some u)|.pair a b,x,cs=>∃c1 c2,cs=c1++c2∧BZ w S a x.1 c1∧BZ w S b x.2 c2|.unit,_,cs=>cs=[]
theorem BZ.length{w:World}{S:Nat→Prop}:∀{t:Ty}{x:t.den}{cs:List Value},BZ w S t x cs→cs.length=t.size|.int _,_,_,h=>by rw[show _=_ from h];rfl|.bool,_,_,h=>by rw[show _=_ from h];rfl|.str,_,_,h=>by rw[show _=_ from h];rfl|.sl _,_,_,⟨_,_,h,_⟩=>by rw[h];rfl|.pair a b,_,_,⟨c1,c2,h,h1,h2⟩=>by rw[h,ZGI,h1.length,h2.length];rfl|.unit,_,_,h=>by rw[show _=_ from h];rfl
theorem BZ.one{w:World}{S:Nat→Prop}:∀{t:Ty}{x:t.den}{cs:List Value},BZ w S t x cs→∀u∈cs,u.oneCell'=true
 |.int _,_,_,h=>by rw[show _=_ from h];simp[Value.oneCell']|.bool,_,_,h=>by rw[show _=_ from h];simp[Value.oneCell']|.str,_,_,h=>by rw[show _=_ from h];simp[Value.oneCell']|.sl _,_,_,⟨_,_,h,_⟩=>by rw[h];simp[Value.oneCell']|.pair a b,_,_,⟨c1,c2,h,h1,h2⟩=>by
  rw[h];intro u hu;rcases List.mem_append.1 hu with hu|hu;·exact h1.one u hu
  ·exact h2.one u hu|.unit,_,_,h=>by rw[show _=_ from h];simp
theorem S7{w w':World}{b:Nat}(h:w'.heap[b]?=w.heap[b]?)(o:Nat):w'.cell? ⟨b,o,none⟩=w.cell? ⟨b,o,none⟩:=by simp only[World.cell?,h]
theorem BZ.mono{w w':World}{S S':Nat→Prop}(hS:∀b,S b→S' b∧w'.heap[b]?=w.heap[b]?):∀{t:Ty}{x:t.den}{cs:List Value},BZ w S t x cs→BZ w' S' t x cs|.int _,_,_,h=>h|.bool,_,_,h=>h|.str,_,_,h=>h|.sl t,l,_,⟨a,c,h,hc,hl⟩=>⟨a,c,h,hc,λhne=>by obtain⟨b,off,ha,hb,hx⟩:=hl hne;refine⟨b,off,ha,(hS b hb).1,λi x hi=>?_⟩;obtain⟨cs',h1,h2⟩:=hx i x hi;exact⟨cs',h1.mono hS,λj u hj=>(S7 (hS b hb).2 _).trans (h2 j u hj)⟩⟩|.pair _ _,_,_,⟨c1,c2,h,h1,h2⟩=>⟨c1,c2,h,h1.mono hS,h2.mono hS⟩|.unit,_,_,h=>h
structure Ai where
 b:Nat
 a:Option Addr:=none
 len:Nat:=0
 cap:Nat:=0
 esz:Nat:=0
def Ai.v(L:Ai):Value:=.slice L.a L.len L.cap
structure AF where
 w:World
 S:Nat→Prop
 loc:Nat→Option Ai
def Ai.Part(L:Ai)(lo n:Nat)(c:Value):Prop:=∃a,c=.slice a n (L.cap-lo)∧(L.cap≠lo→a=L.a.map (·.add (lo*L.esz)))
def M2(w:World)(S:Nat→Prop)(t:Ty)(x:t.den)(v:Value):Prop:=match t,x with|.pair a b,x=>∃cs:Array Value,v=.agg cs∧BZ w S (.pair a b) x cs.toList|t,x=>BZ w S t x [v]
def OQ(w:World)(S:Nat→Prop):(ts:List Ty)→Bq ts→List Value→Prop|[],_,vs=>vs=[]|[t],x,vs=>∃v,vs=[v]∧M2 w S t x v|t::u::l,x,vs=>∃v r,vs=v::r∧M2 w S t x.1 v∧OQ w S (u::l) x.2 r
def Vv(w:World)(S:Nat→Prop)(rs:List Ty)(x:Bq rs)(v:Value):Prop:=match rs,x with|[],_=>v=.tuple #[]|[t],x=>M2 w S t x v|t::u::l,x=>∃vs:Array Value,v=.tuple vs∧OQ w S (t::u::l) x vs.toList
structure JE(w:World)(S:Nat→Prop)(w':World)(S':Nat→Prop):Prop where
 drawn:w.drawn≤w'.drawn
 os:w'.os=w.os
 tape:w'.tape=w.tape
 output:w'.output=w.output
 size:w.heap.size≤w'.heap.size
 frame:∀b,b<w.heap.size→w'.heap[b]?=w.heap[b]?
 up:∀b,S b→S' b
 st:∀b,S' b→S b∨w.heap.size≤b
 lt:∀b,S' b→b<w'.heap.size
def DK(P:Program)(f:FuncId):Prop:=∃fn,P.funcs[f]?=some fn∧fn.body.isSome=true∧(fn.name== "runtime.NumGoroutine")=false
def OV(P:Program)(w:World)(S:Nat→Prop):Prop:=∃b,S b∧∀w':World,w'.heap[b]?=w.heap[b]?→Lib.TabIs P w' "internal/strconv.uint64pow10" .u64 Lib.pow10Tab
theorem OV.mono{P:Program}{w w':World}{S S':Nat→Prop}(h:OV P w S)(hS:∀b,S b→S' b∧w'.heap[b]?=w.heap[b]?):OV P w' S':=by obtain⟨b,h1,h2⟩:=h;exact⟨b,(hS b h1).1,λw1 h3=>h2 w1 (h3.trans (hS b h1).2)⟩
structure FN(P:Program)(w:World)(S:Nat→Prop):Prop where
 lt:∀b,S b→b<w.heap.size
 tab:OV P w S
def Sk(P:Program)(w:World)(S:Nat→Prop)(ts rs:List Ty)(pre:Bq ts→Prop)(f:Bq ts→Bq rs)(c:Value):Prop:=∃(g:FuncId)(a b:Array Value),c=.func (.func g) a b∧DK P g∧∀(w1:World)(S1:Nat→Prop),(∀k,S k→S1 k∧w1.heap[k]?=w.heap[k]?)→FN P w1 S1→∀xs,pre xs→∀cargs:Array Value,OQ w1 S1 ts xs cargs.toList→Calls P g (a++cargs++b) w1 λe w2=>∃v S2,e=.returned v∧JE w1 S1 w2 S2∧Vv w2 S2 rs (f xs) v
theorem Sk.mono{P:Program}{w w':World}{S S':Nat→Prop}{ts rs:List Ty}{pre:Bq ts→Prop}{f:Bq ts→Bq rs}{c:Value}(hS:∀b,S b→S' b∧w'.heap[b]?=w.heap[b]?)(h:Sk P w S ts rs pre f c):Sk P w' S' ts rs pre f c:=by obtain⟨g,a,b,h1,h2,h3⟩:=h;exact⟨g,a,b,h1,h2,λw1 S1 hs=>h3 w1 S1 λk hk=>⟨(hs k (hS k hk).1).1,(hs k (hS k hk).1).2.trans (hS k hk).2⟩⟩
inductive AC(P:Program)(E:AF):V→Value→Prop where|any(v):AC P E .any v|d{t x v}:BZ E.w E.S t x [v]→AC P E (.d t x) v|nilp:AC P E .nilp (.pointer none)|nilf:AC P E .nilf .nilFunc|nils(a):AC P E .nils (.slice a 0 0)|nilm:AC P E .nilm (.map none)|fn{f fs cs}{a b:Array Value}:a.size=fs.length→b.size=cs.length→(∀j,j<fs.length→AC P E (fs.getD j .any) (a.getD j undef))→(∀j,j<cs.length→AC P E (cs.getD j .any) (b.getD j undef))→AC P E (.fn f fs cs) (.func f a b)|agg{cs}{a:Array Value}:a.size=cs.length→(∀j,j<cs.length→AC P E (cs.getD j .any) (a.getD j undef))→AC P E (.agg cs) (.agg a)|tup{cs}{a:Array Value}:a.size=cs.length→(∀j,j<cs.length→AC P E (cs.getD j .any) (a.getD j undef))→AC P E (.tup cs) (.tuple a)|er{cs b off}(c:Nat→Value):E.S b→(∀j,j<cs.length→E.w.cell? ⟨b,off+j,none⟩=some (c j))→(∀j,j<cs.length→AC P E (cs.getD j .any) (c j))→AC P E (.er cs) (.pointer (some ⟨b,off,none⟩))|ref{l off L}:E.loc l=some L→AC P E (.ref l off) (.pointer (some ⟨L.b,off,none⟩))|rref{l i off L}:E.loc l=some L→AC P E (.rref l i off) (.pointer (some ⟨L.b,i*L.esz+off,none⟩))|osl{l L}:E.loc l=some L→AC P E (.osl l) L.v|osp{l lo n L c}:E.loc l=some L→L.Part lo n c→AC P E (.osp l lo n) c|map{l L}:E.loc l=some L→AC P E (.map l) (.map (some L.b))|when{b v x}:(b=true→AC P E v x)→(b=false→x=undef)→AC P E (.when b v) x|opt{b v x}:(b=true→AC P E v x)→(b=false→x=.pointer none)→AC P E (.opt b v) x|pf{ts rs pre f c}:Sk P E.w E.S ts rs pre f c→AC P E (.pf ts rs pre f) c|yl{l L}:E.loc l=some L→AC P E (.yl l) (.func (.yield L.b) #[] #[])|bsl{l n L}:E.loc l=some L→AC P E (.bsl l n) (.slice (some ⟨L.b,0,none⟩) n n)
structure CK(E E':AF)(M:List Nat):Prop where
 S:∀b,E.S b→E'.S b∧E'.w.heap[b]?=E.w.heap[b]?
 loc:∀l L,l∉M→E.loc l=some L→E'.loc l=some L
theorem CK.refl(E:AF)(M:List Nat):CK E E M:=⟨λ_ h=>⟨h,rfl⟩,λ_ _ _ h=>h⟩
theorem CK.trans{A B C:AF}{M M':List Nat}(h:CK A B M)(k:CK B C M'):CK A C (M'++M):=⟨λb hb=>⟨(k.S b (h.S b hb).1).1,(k.S b (h.S b hb).1).2.trans (h.S b hb).2⟩,λl L hl hu=>by simp only[ZGa,ZGx]at hl;exact k.loc l L hl.1 (h.loc l L hl.2 hu)⟩
theorem AC.mono{P:Program}{E E':AF}(h:CK E E' []){v:V}{c:Value}(r:AC P E v c):AC P E' v c:=by have hl:∀{l L},E.loc l=some L→E'.loc l=some L:=λk=>h.loc _ _ (by simp) k;induction r with|any v=>exact .any v|d hc=>exact .d (hc.mono h.S)|nilp=>exact .nilp|nilf=>exact .nilf|nils a=>exact .nils a|nilm=>exact .nilm|fn h1 h2 _ _ i1 i2=>exact .fn h1 h2 i1 i2|agg h1 _ i1=>exact .agg h1 i1|tup h1 _ i1=>exact .tup h1 i1|er c hb hc _ i=>exact .er c (h.S _ hb).1 (λj hj=>(S7 (h.S _ hb).2 _).trans (hc j hj)) i|ref k=>exact .ref (hl k)|rref k=>exact .rref (hl k)|osl k=>exact .osl (hl k)|osp k kp=>exact .osp (hl k) kp|map k=>exact .map (hl k)|when _ h2 i1=>exact .when i1 h2|opt _ h2 i1=>exact .opt i1 h2|pf k=>exact .pf (k.mono h.S)|yl k=>exact .yl (hl k)|bsl k=>exact .bsl (hl k)
def V.isRef:V→Bool|.ref ..|.rref ..|.osl ..|.osp ..|.map ..|.yl _|.bsl ..=>true|_=>false
mutual
def V.subst(f:V→V):V→V|.fn g a b=>.fn g (DI f a) (DI f b)|.agg cs=>.agg (DI f cs)|.tup cs=>.tup (DI f cs)|.er cs=>.er (DI f cs)|.when b v=>.when b (V.subst f v)|.opt b v=>.opt b (V.subst f v)|.ref l o=>f (.ref l o)|.rref l i o=>f (.rref l i o)|.osl l=>f (.osl l)|.osp l lo n=>f (.osp l lo n)|.map l=>f (.map l)|.yl l=>f (.yl l)|.bsl l n=>f (.bsl l n)|v=>v
def DI(f:V→V):List V→List V|[]=>[]|v::l=>V.subst f v::DI f l
end
theorem Jf(f:V→V):∀l,DI f l=l.map (V.subst f)|[]=>rfl|v::l=>by simp only[DI,Jf f l,ZGi]
theorem K5{f:V→V}{l:List V}{j:Nat}(hj:j<l.length):(DI f l).getD j .any=(l.getD j .any).subst f:=by rw[Jf,ZGG,ZGG,ZHO,ZGU hj];rfl
theorem K6{P:Program}{E E':AF}{f:V→V}(hS:∀b,E.S b→E'.S b∧E'.w.heap[b]?=E.w.heap[b]?)(hf:∀v c,v.isRef=true→AC P E v c→AC P E' (f v) c){v:V}{c:Value}(r:AC P E v c):AC P E' (v.subst f) c:=by
 have len:∀l:List V,(DI f l).length=l.length:=λl=>by rw[Jf,ZGM]
 induction r with|any v=>exact .any v|d hc=>exact .d (hc.mono hS)|nilp=>exact .nilp|nilf=>exact .nilf|nils a=>exact .nils a|nilm=>exact .nilm|fn h1 h2 h3 h4 i1 i2=>exact .fn (by rw[len];exact h1) (by rw[len];exact h2) (λj hj=>by rw[len]at hj;rw[K5 hj];exact i1 j hj) λj hj=>by rw[len]at hj;rw[K5 hj];exact i2 j hj|agg h1 h2 i1=>exact .agg (by rw[len];exact h1) λj hj=>by rw[len]at hj;rw[K5 hj];exact i1 j hj|tup h1 h2 i1=>exact .tup (by rw[len];exact h1) λj hj=>by rw[len]at hj;rw[K5 hj];exact i1 j hj|er c hb hc h3 i=>exact .er c (hS _ hb).1 (λj hj=>by rw[len]at hj;exact(S7 (hS _ hb).2 _).trans (hc j hj)) λj hj=>by rw[len]at hj;rw[K5 hj];exact i j hj|ref k=>exact hf _ _ rfl (.ref k)|rref k=>exact hf _ _ rfl (.rref k)|osl k=>exact hf _ _ rfl (.osl k)|osp k kp=>exact hf _ _ rfl (.osp k kp)|map k=>exact hf _ _ rfl (.map k)|when h1 h2 i1=>exact .when i1 h2|opt h1 h2 i1=>exact .opt i1 h2|pf k=>exact .pf (k.mono hS)|yl k=>exact hf _ _ rfl (.yl k)|bsl k=>exact hf _ _ rfl (.bsl k)
inductive RJ where|no|ret|exit(id:Nat)
def RJ.code:RJ→Option Code|.no=>none|.ret=>some .ret|.exit id=>some (.exit id)
inductive Obj where|dead|box(cs:List V)|row(t:Ty)(l:List t.den)|vrow(t:Ty)(l:List (List t.den))(s:List V)(m:Nat)|smap(t:Ty)(m:ByteArray→Option t.den)|imap(t:Ty)(m:Int→Option t.den)|lrec(nt:Nat)(tmps:List (Nat×V))(params:List Nat)(assign body:Code)(st:LoopState)(j:RJ)|dfb
abbrev AH:=List (Nat×Obj)
def AB(l:Nat):AH→Option Obj|[]=>none|(k,o)::r=>match Nat.beq k l with|true=>some o|false=>AB l r
theorem BA(k l:Nat)(o:Obj)(r:AH):AB l ((k,o)::r)=if k=l then some o else AB l r:=by
 simp only[AB];split;·rename_i h;rw[ZGE (ZGJ h)]
 ·rename_i h;rw[ZGA (ZHZ h)]
def A8(w:World)(S:Nat→Prop)(t:Ty):List t.den→List Value→Prop|[],cs=>cs=[]|x::l,cs=>∃c1 c2,cs=c1++c2∧BZ w S t x c1∧A8 w S t l c2
theorem A8.mono{w w':World}{S S':Nat→Prop}{t:Ty}(hS:∀b,S b→S' b∧w'.heap[b]?=w.heap[b]?):∀{l:List t.den}{cs:List Value},A8 w S t l cs→A8 w' S' t l cs|[],_,h=>h|_::_,_,⟨c1,c2,h,h1,h2⟩=>⟨c1,c2,h,h1.mono hS,h2.mono hS⟩
theorem A8.length{w:World}{S:Nat→Prop}{t:Ty}:∀{l:List t.den}{cs:List Value},A8 w S t l cs→cs.length=l.length*t.size|[],_,h=>by rw[show _=_ from h];simp|_::l,_,⟨c1,c2,h,h1,h2⟩=>by rw[h,ZGI,h1.length,h2.length,ZGL,ZHS];omega
theorem A8.append{w:World}{S:Nat→Prop}{t:Ty}:∀{l l':List t.den}{cs cs':List Value},A8 w S t l cs→A8 w S t l' cs'→A8 w S t (l++l') (cs++cs')|[],_,_,_,h,h'=>by rw[show _=_ from h];simpa using h'|_::_,_,_,_,⟨c1,c2,h,h1,h2⟩,h'=>⟨c1,c2++_,by rw[h,ZGy],h1,h2.append h'⟩
theorem A8.one{w:World}{S:Nat→Prop}{t:Ty}:∀{l:List t.den}{cs:List Value},A8 w S t l cs→∀u∈cs,u.oneCell'=true
 |[],_,h=>by rw[show _=_ from h];simp|_::_,_,⟨c1,c2,h,h1,h2⟩=>by
  rw[h];intro u hu;rcases List.mem_append.1 hu with hu|hu;·exact h1.one u hu
  ·exact h2.one u hu
theorem A8.get{w:World}{S:Nat→Prop}{t:Ty}:∀{l:List t.den}{cs:List Value},A8 w S t l cs→∀(i:Nat)(x:t.den),l[i]?=some x→∃c,BZ w S t x c∧∀j u,c[j]?=some u→cs[i*t.size+j]?=some u|[],_,_,i,x,h=>by simp at h|y::l,cs,⟨c1,c2,h,h1,h2⟩,0,x,hx=>by simp at hx;subst hx;refine⟨c1,h1,λj u hj=>?_⟩;rw[h,ZJR,ZGu,ZHK (by have :=(List.getElem?_eq_some_iff.1 hj).1;exact this)];exact hj|y::l,cs,⟨c1,c2,h,h1,h2⟩,i+1,x,hx=>by obtain⟨c,hc,hj⟩:=h2.get i x (by simpa using hx);refine⟨c,hc,λj u hu=>?_⟩;have jX:=h1.length;rw[h,ZG5 (by rw[jX,ZHS];omega)];rw[show(i+1)*t.size+j-c1.length=i*t.size+j from by rw[jX,ZHS];omega];exact hj j u hu
theorem A8.of_get{w:World}{S:Nat→Prop}{t:Ty}:∀{l:List t.den}{cs:List Value},cs.length=l.length*t.size→(∀(i:Nat)(x:t.den),l[i]?=some x→∃c,BZ w S t x c∧∀j u,c[j]?=some u→cs[i*t.size+j]?=some u)→A8 w S t l cs
 |[],cs,h,_=>ZGY (by simpa using h)|x::l,cs,h,hg=>by
  obtain⟨c,hc,hj⟩:=hg 0 x rfl;have hcl:=hc.length;have hle:t.size≤cs.length:=by rw[h,ZGL,ZHS];omega
  have e:cs.take t.size=c:=by
   apply ZHX;intro j;rw[ZGg];split;·rename_i Ab;have :=hj j c[j] (ZGU (by omega));rw[ZGU (by omega:j<c.length)];simpa using this
   ·rw[ZHL (by omega)]
  refine⟨c,cs.drop t.size,by rw[←e,ZHv],hc,A8.of_get (by rw[ZG1,h,ZGL,ZHS];omega) λi y hy=>?_⟩;obtain⟨c',hc',hj'⟩:=hg (i+1) y (by simpa using hy);refine⟨c',hc',λj u hu=>?_⟩;rw[ZHy,show t.size+(i*t.size+j)=(i+1)*t.size+j from by rw[ZHS];omega];exact hj' j u hu
theorem I9{α:Type}{A vs:List α}{o:Nat}(h:o+vs.length≤A.length)(k:Nat):(A.take o++vs++A.drop (o+vs.length))[k]?=if k<o then A[k]? else if k<o+vs.length then vs[k-o]? else A[k]?:=by
 have hto:(A.take o).length=o:=by simp;omega
 split;·rw[ZGy,ZHK (by omega),ZGg,ZGE ‹_›]
 ·split;·rw[ZHK (by simp;omega),ZG5 (by omega),hto]
  ·rw[ZG5 (by simp;omega),ZHy];congr 1;simp;omega
def Lj{κ:Type}(f:κ→Value)(w:World)(S:Nat→Prop)(t:Ty)(m:κ→Option t.den)(es:Array MapEntry):Prop:=(∀e∈es.toList,∃k x,e.key=f k∧m k=some x∧BZ w S t x [e.val])∧(∀k x,m k=some x→∃e∈es.toList,e.key=f k)∧(es.toList.map λe=>e.key).Nodup
abbrev ZEB(w:World)(S:Nat→Prop)(t:Ty)(m:ByteArray→Option t.den)(es:Array MapEntry):Prop:=Lj Value.string w S t m es
abbrev ZB8(w:World)(S:Nat→Prop)(t:Ty)(m:Int→Option t.den)(es:Array MapEntry):Prop:=Lj (Value.int .i64) w S t m es
theorem Lj.mono{κ:Type}{f:κ→Value}{w w':World}{S S':Nat→Prop}{t:Ty}{m:κ→Option t.den}{es:Array MapEntry}(h:Lj f w S t m es)(hS:∀b,S b→S' b∧w'.heap[b]?=w.heap[b]?):Lj f w' S' t m es:=⟨λe he=>let⟨k,x,h1,h2,h3⟩:=h.1 e he;⟨k,x,h1,h2,h3.mono hS⟩,h.2⟩
def Ag(t:Nat):List (Nat×V)→V|[]=>.any|(u,v)::r=>match Nat.beq u t with|true=>v|false=>Ag t r
theorem DG(u t:Nat)(v:V)(l:List (Nat×V)):Ag t ((u,v)::l)=if u=t then v else Ag t l:=by
 simp only[Ag];split;·rename_i h;rw[ZGE (ZGJ h)]
 ·rename_i h;rw[ZGA (ZHZ h)]
def Ay(P:Program)(E:AF)(L:Ai):Obj→Prop|.dead=>True|.box cs=>∃vals t,E.w.heap[L.b]?=some (.cells vals t (0,0))∧vals.size=cs.length∧∀j,j<cs.length→AC P E (cs.getD j .any) (vals.getD j undef)|.row t xs=>L.esz=t.size∧0<t.size∧L.len=xs.length∧∃e cs,A8 E.w E.S t xs cs∧( L.cap=0∧xs=[]∨∃cur,L.a=some ⟨L.b,0,none⟩∧E.w.heap[L.b]?=some (.cells cur e (0,0))∧xs.length≤L.cap∧0<L.cap∧L.cap≤maxLen∧cur.size=L.cap*t.size∧cur.toList.take (xs.length*t.size)=cs)|.vrow t xs s m=>L.esz=1∧s.length≤1∧L.len=xs.length+s.length+m∧∃e cs,A8 E.w E.S (.sl t) xs cs∧( L.cap=0∧L.len=0∨∃cur,L.a=some ⟨L.b,0,none⟩∧E.w.heap[L.b]?=some (.cells cur e (0,0))∧L.len≤L.cap∧0<L.cap∧L.cap≤maxLen∧cur.size=L.cap∧cur.toList.take xs.length=cs∧(∀j,j<s.length→AC P E (s.getD j .any) (cur.getD (xs.length+j) undef))∧∀i,xs.length+s.length≤i→i<L.len→cur[i]?=some (.slice none 0 0))|.smap t m=>∃es clock,E.w.heap[L.b]?=some (.map es clock)∧ZEB E.w E.S t m es|.imap t m=>∃es clock,E.w.heap[L.b]?=some (.map es clock)∧ZB8 E.w E.S t m es|.lrec nt tmps params assign body st j=>∃r:Loop,E.w.heap[L.b]?=some (.loop r)∧r.tmps.size=nt∧(∀t,AC P E (Ag t tmps) (r.tmps.getD t undef))∧r.params.toList=params∧r.assign=assign∧r.body=body∧r.state=st∧r.pending=j.code|.dfb=>E.w.heap[L.b]?=some (.deferred (some []))
def Obj.has(o:Obj)(L:Ai):Prop:=match o with|.dead=>False|.row ..|.vrow ..=>L.cap≠0|_=>True
def Bp(E:AF)(objs:AH)(b:Nat):Prop:=∃l o L,AB l objs=some o∧E.loc l=some L∧o.has L∧L.b=b
structure AE(P:Program)(E:AF)(objs:AH):Prop where
 at_:∀l o,AB l objs=some o→∃L,E.loc l=some L∧Ay P E L o
 ns:∀b,Bp E objs b→¬E.S b
 sl:∀b,E.S b→b<E.w.heap.size
 tab:OV P E.w E.S
 inj:∀l l' o o' L L',AB l objs=some o→AB l' objs=some o'→E.loc l=some L→E.loc l'=some L'→o.has L→o'.has L'→L.b=L'.b→l=l'
structure BL(E0:AF)(imp:AH)(E:AF)(objs:AH)(M:List Nat):Prop where
 ext:CK E0 E M
 os:E.w.os=E0.w.os
 tape:E.w.tape=E0.w.tape
 output:E.w.output=E0.w.output
 size:E0.w.heap.size≤E.w.heap.size
 frame:∀b,b<E0.w.heap.size→¬Bp E0 imp b→E.w.heap[b]?=E0.w.heap[b]?
 own:∀b,Bp E objs b→E0.w.heap.size≤b∨Bp E0 imp b
 st:∀b,E.S b→E0.S b∨E0.w.heap.size≤b∨Bp E0 imp b
 keys:∀l,AB l objs=none→AB l imp=none
 dom:∀l,AB l objs=none→E.loc l=E0.loc l
theorem BL.refl(E:AF)(objs:AH)(M:List Nat):BL E objs E objs M:=⟨.refl _ _,rfl,rfl,rfl,ZGR _,λ_ _ _=>rfl,λ_ h=>.inr h,λ_ h=>.inl h,λ_ h=>h,λ_ _=>rfl⟩
theorem BL.trans{E0 E1 E2:AF}{o0 o1 o2:AH}{M M':List Nat}(h:BL E0 o0 E1 o1 M)(k:BL E1 o1 E2 o2 M'):BL E0 o0 E2 o2 (M'++M):=⟨h.ext.trans k.ext,k.os.trans h.os,k.tape.trans h.tape,k.output.trans h.output,ZGd h.size k.size,λb hb hn=>(k.frame b (ZIB hb h.size) λho=>(h.own b ho).elim λh'=>by omega hn).trans (h.frame b hb hn),λb hb=>(k.own b hb).elim (λh'=>.inl (ZGd h.size h')) (h.own b),λb hb=>(k.st b hb).elim (h.st b) λh'=>h'.elim (λh'=>.inr (.inl (ZGd h.size h'))) λh'=>.inr (h.own b h'),λl hl=>h.keys l (k.keys l hl),λl hl=>(k.dom l hl).trans (h.dom l (k.keys l hl))⟩
theorem Ay.block_lt{P:Program}{E:AF}{L:Ai}{o:Obj}(h:Ay P E L o)(hh:o.has L):L.b<E.w.heap.size:=by cases o with
 |dead=>exact hh.elim|box cs=>obtain⟨vals,t,hb,_⟩:=h;exact(Array.getElem?_eq_some_iff.1 hb).1|row t xs=>
  obtain⟨_,_,_,e,cs,_,h|⟨cur,_,hb,_⟩⟩:=h;·exact absurd h.1 hh
  ·exact(Array.getElem?_eq_some_iff.1 hb).1|vrow t xs s m=>
  obtain⟨_,_,_,e,cs,_,h|⟨cur,_,hb,_⟩⟩:=h;·exact absurd h.1 hh
  ·exact(Array.getElem?_eq_some_iff.1 hb).1|smap t m=>obtain⟨es,c,hb,_⟩:=h;exact(Array.getElem?_eq_some_iff.1 hb).1|imap t m=>obtain⟨es,c,hb,_⟩:=h;exact(Array.getElem?_eq_some_iff.1 hb).1|lrec=>obtain⟨r,hb,_⟩:=h;exact(Array.getElem?_eq_some_iff.1 hb).1|dfb=>exact(Array.getElem?_eq_some_iff.1 h).1
theorem AE.sok{P:Program}{E:AF}{objs:AH}(g:AE P E objs):FN P E.w E.S:=⟨g.sl,g.tab⟩
theorem AE.own_lt{P:Program}{E:AF}{objs:AH}(h:AE P E objs){b:Nat}(hb:Bp E objs b):b<E.w.heap.size:=by obtain⟨l,o,L,ho,hL,hh,rfl⟩:=hb;obtain⟨L',hL',ha⟩:=h.at_ l o ho;rw[hL]at hL';cases hL';exact ha.block_lt hh
inductive TK where|int(k:IntKind)|bool|str|sl(e:TypeId)|arr(n:Nat)(e:TypeId)|st(offs:List (Nat×Nat))|ptr|map(k e:TypeId)|fn|other
structure TI where
 k:TK
 size:Nat
 bytes:Nat
 zero:List Value
 code:Option Ty
def TK.known:TK→Bool|.other=>false|_=>true
def TI.isAgg(i:TI):Bool:=match i.k with|.arr ..|.st _=>true|_=>false
structure TI.Ok(P:Program)(t:TypeId)(i:TI):Prop where
 info:∃info z,P.info? t=some info∧info.size=i.size∧info.bytes=i.bytes∧info.zero=some z∧z.cells.toList=i.zero∧z.cells.size=i.size
 kind:match i.k with|.int k=>P.underlying t=some (.int k)|.bool=>P.underlying t=some .bool|.str=>P.underlying t=some .string|.sl e=>P.underlying t=some (.slice e)|.arr n e=>P.underlying t=some (.array n e)∧∃ie ze,P.info? e=some ie∧ie.zero=some ze∧i.zero=(List.replicate n ze.cells.toList).flatten∧i.size=n*ie.size∧0<n∧n≤9223372036854775807∧0<ie.size|.st offs=>∃fs,P.underlying t=some (.struct fs)∧fs.toList.map (λf=>(f.offset,P.cellsOf f.type))=offs∧∀p∈offs,p.2≠0|.ptr=>∃e,P.underlying t=some (.pointer e)|.map k e=>P.underlying t=some (.map k e)∧∃ie ze,P.info? e=some ie∧ie.zero=some ze∧ze.oneCell'=true|.fn=>∃ps rs v,P.underlying t=some (.func ps rs v)|.other=>True
 code:∀T,i.code=some T→T.size=i.size∧0<i.size∧∀w S,BZ w S T T.dflt i.zero
abbrev Ap:=TypeId→Option TI
def BQ(P:Program)(τ:Ap):Prop:=∀t i,τ t=some i→i.Ok P t
def Vl:Value→V
 |.int k n=>.d (.int k) n|.bool b=>.d .bool b|.string s=>.d .str s|.slice none 0 0=>.nils|.pointer none=>.nilp|.nilFunc=>.nilf|.map none=>.nilm|.tuple vs=>match vs.toList with|[]=>.tup []|_=>.any
 |_=>.any
def Au(tmps:List (Nat×V)):Operand→V|.tmp t=>Ag t tmps|.const c=>Vl c|.func f=>.fn (.func f) [] []|.global _=>.any
def V.solid:V→Bool|.any|.when ..|.tup _|.agg _=>false|.opt _ v=>v.solid|_=>true
def Sr:List V→Bool|[]=>true|v::l=>match v.solid with|true=>Sr l|false=>false
def V.scells:V→Option (List V)
 |.agg cs=>match Sr cs with|true=>some cs|false=>none
 |v=>match v.solid with|true=>some [v]|false=>none
def QC(T:Ty):V→Option (List T.den)|.d (.sl t) l=>if h:t=T then some (h▸l)else none|.nils=>some []|_=>none
def UY:IntKind→IntKind→Bool|.i8,.i8=>true|.i16,.i16=>true|.i32,.i32=>true|.i64,.i64=>true|.u8,.u8=>true|.u16,.u16=>true|.u32,.u32=>true|.u64,.u64=>true|_,_=>false
def Pg(k:IntKind):List V→Option Int
 |[.d (.int k') n]=>match UY k' k with|true=>some n|false=>none
 |_=>none
def Zv:List V→Option Bool|[.d .bool b]=>some b|_=>none
def Zw:List V→Option ByteArray|[.d .str s]=>some s|_=>none
def qR(t:Ty):List V→Option (List t.den)|[v]=>QC t v|_=>none
def qS:List V→Option Unit|[]=>some ()|_=>none
def GU:(T:Ty)→List V→Option T.den
 |.int k,cs=>Pg k cs|.bool,cs=>Zv cs|.str,cs=>Zw cs|.sl t,cs=>qR t cs|.pair a b,cs=>match GU a (cs.take a.size)with
  |some x=>match GU b (cs.drop a.size)with|some y=>some (x,y)|none=>none
  |none=>none
 |.unit,cs=>qS cs
def BM:Option Prop→Prop|none=>True|some p=>p
structure Av where
 ob:Option Prop
 v:V
 ed:Option (Nat×Obj×Bool)
def V.key:V→Option Nat|.ref l _|.rref l _ _|.osl l|.osp l _ _|.map l|.yl l|.bsl l _=>some l|_=>none
def Di(l:Nat)(v:V):V:=match v.key with
 |some k=>match Nat.beq k l with|true=>.any|false=>v
 |none=>v
def Obj.subst(f:V→V):Obj→Obj|.box cs=>.box (DI f cs)|.vrow t xs s m=>.vrow t xs (DI f s) m|.lrec nt tmps ps a b st j=>.lrec nt (tmps.map λp=>(p.1,p.2.subst f)) ps a b st j|o=>o
def substO(f:V→V):AH→AH|[]=>[]|(k,o)::r=>(k,o.subst f)::substO f r
def edit(objs:AH):Option (Nat×Obj×Bool)→AH|none=>objs|some (l,o,false)=>(l,o)::objs|some (l,o,true)=>(l,o)::substO (Di l) objs
def moved:Option (Nat×Obj×Bool)→List Nat|some (l,_,true)=>[l]|_=>[]
def Mj(agg:Bool)(cs:List V):Option V:=match agg with|true=>some (.agg cs)|false=>match cs with|[v]=>some v|_=>none
def Ls:Nat→List V→Option (List V)
 |0,_=>some []|n+1,v::l=>match Ls n l with|some r=>some (v::r)|none=>none
 |_+1,[]=>none
def Jr:Nat→List V→List V|0,l=>l|n+1,_::l=>Jr n l|_+1,[]=>[]
def putCells(cs:List V)(off:Nat)(new:List V):Option (List V):=match Nat.ble (off+new.length) cs.length with|true=>some (cs.take off++(new++Jr (off+new.length) cs))|false=>none
def Wy(τ:Ap)(os:AH)(t:TypeId)(v:V):Option Av:=match τ t with|none=>none|some ti=>match ti.k.known with|false=>none|true=>match v with
 |.ref l off=>match AB l os with
  |some (.box cs)=>match Ls ti.size (Jr off cs)with
   |some ds=>match Mj ti.isAgg ds with|some v=>some ⟨none,v,none⟩|none=>none
   |none=>none
  |_=>none
 |.er cs=>match Ls ti.size cs with
  |some ds=>match Mj ti.isAgg ds with|some v=>some ⟨none,v,none⟩|none=>none
  |none=>none
 |.rref l i off=>match AB l os with
  |some (.row T xs)=>match Ls ti.size (Jr off (flat T (xs.getD i T.dflt)))with
   |some ds=>match Mj ti.isAgg ds with|some v=>some ⟨some (i<xs.length),v,none⟩|none=>none
   |none=>none
  |some (.vrow _ xs s _)=>match s with
   |[v]=>match Nat.beq off 0&&Nat.beq ti.size 1 with
    |true=>match Mj ti.isAgg [v]with|some v=>some ⟨some (i=xs.length),v,none⟩|none=>none
    |false=>none
   |_=>none
  |_=>none
 |_=>none
def P2(T:Ty):Nat→List V→Option (List T.den)|0,[]=>some []|0,_=>none|n+1,cs=>match GU T (cs.take T.size)with
 |some x=>match P2 T n (cs.drop T.size)with
  |some l=>match Nat.beq (cs.take T.size).length T.size with|true=>some (x::l)|false=>none
  |none=>none
 |none=>none
def W7(τ:Ap)(os:AH)(t:TypeId)(a x:V):Option Av:=match τ t with|none=>none|some ti=>match x.scells with|none=>none|some new=>match Nat.beq new.length ti.size with|false=>none|true=>match a with
 |.ref l off=>match AB l os with
  |some (.box cs)=>match putCells cs off new with|some cs'=>some ⟨none,.tup [],some (l,.box cs',false)⟩|none=>none
  |_=>none
 |.rref l i off=>match AB l os with
  |some (.row T xs)=>match ti.k with
   |.arr n _=>match Nat.beq i 0&&Nat.beq off 0 with
    |true=>match P2 T n new with|some ys=>some ⟨some (n=xs.length),.tup [],some (l,.row T ys,false)⟩|none=>none
    |false=>none
   |_=>match putCells (flat T (xs.getD i T.dflt)) off new with
    |some cs=>match GU T cs with|some y=>some ⟨some (i<xs.length),.tup [],some (l,.row T (xs.set i y),false)⟩|none=>none
    |none=>none
  |some (.vrow T xs s m)=>match s with
   |[_]=>match new with
    |[v]=>match Nat.beq off 0 with|true=>some ⟨some (i=xs.length),.tup [],some (l,.vrow T xs [v] m,false)⟩|false=>none
    |_=>none
   |_=>none
  |_=>none
 |_=>none
def Wu(τ:Ap)(os:AH)(s:TypeId)(v:V)(f:Nat):Option Av:=match τ s with
 |some ⟨.st offs,_,_,_,_⟩=>match offs[f]? with
  |some (o,_)=>match v with|.ref l off=>some ⟨none,.ref l (off+o),none⟩|.er cs=>some ⟨none,.er (Jr o cs),none⟩|.rref l i off=>some ⟨none,.rref l i (off+o),none⟩|_=>none
  |none=>none
 |_=>none
def Wv(τ:Ap)(os:AH)(t:TypeId)(x ix:V):Option Av:=match τ t with
 |some ⟨.sl e,_,_,_,_⟩=>match ix with
  |.d (.int _) i=>match τ e with
   |some ei=>match x with
    |.d (.sl T) l=>match Nat.beq T.size ei.size with|true=>some ⟨some (0≤i∧i<(List.length (α:=T.den) l:Int)),.er (flat T (List.getD (α:=T.den) l i.toNat T.dflt)),none⟩|false=>none
    |.osl l=>match AB l os with
     |some (.row T xs)=>match Nat.beq T.size ei.size with|true=>some ⟨some (0≤i∧i<(xs.length:Int)),.rref l i.toNat 0,none⟩|false=>none
     |some (.vrow _ xs s m)=>match Nat.beq ei.size 1 with
      |true=>match s with|[]=>none|_::_=>some ⟨some (0≤i∧i<((xs.length+1+m:Nat):Int)),.rref l i.toNat 0,none⟩
      |false=>none
     |_=>none
    |.osp l lo n=>match AB l os with
     |some (.row T xs)=>match Nat.beq T.size ei.size with|true=>some ⟨some (0≤i∧i<(n:Int)∧lo+n≤xs.length),.rref l (lo+i.toNat) 0,none⟩|false=>none
     |_=>none
    |.bsl l n=>match i with
     |.ofNat i=>match Nat.blt i n&&Nat.beq ei.size 1 with|true=>some ⟨none,.ref l i,none⟩|false=>none
     |_=>none
    |.nils=>match ei.code with|some T=>some ⟨some False,.er (flat T T.dflt),none⟩|none=>none
    |_=>none
   |none=>none
  |_=>none
 |some ⟨.arr n e,_,_,_,_⟩=>match ix with
  |.d (.int _) i=>match τ e with
   |some ei=>match x with
    |.rref l 0 0=>match AB l os with
     |some (.row T xs)=>match Nat.beq T.size ei.size with|true=>some ⟨some (0≤i∧i<(n:Int)),.rref l i.toNat 0,none⟩|false=>none
     |_=>none
    |_=>none
   |none=>none
  |_=>none
 |_=>none
def AA:IntKind→Int→Prop|.i8,n=>-128≤n∧n≤127|.i16,n=>-32768≤n∧n≤32767|.i32,n=>-2147483648≤n∧n≤2147483647|.i64,n=>-9223372036854775808≤n∧n≤9223372036854775807|.u8,n=>0≤n∧n≤255|.u16,n=>0≤n∧n≤65535|.u32,n=>0≤n∧n≤4294967295|.u64,n=>0≤n∧n≤18446744073709551615
def wr(k:IntKind)(n:Int):Av:=match k.signed with|true=>⟨some (AA k n),.d (.int k) n,none⟩|false=>⟨none,.d (.int k) (k.wrap n),none⟩
def P4(k:IntKind)(p:Prop)(n:Int):Av:=match k.signed with|true=>⟨some (p∧AA k n),.d (.int k) n,none⟩|false=>⟨some p,.d (.int k) (k.wrap n),none⟩
def ZFF(τ:Ap):Bool:=match τ 1 with|some _=>false|none=>true
def Sc(wm:Bool)(k:IntKind)(n:Int):Av:=match wm with|true=>⟨none,.d (.int k) (k.wrap n),none⟩|false=>wr k n
def Ww(wm:Bool)(op:BinOp)(k:IntKind)(a b:Int):Option Av:=match op with|.add=>some (Sc wm k (a+b))|.sub=>some (wr k (a-b))|.mul=>some (wr k (a*b))|.quo=>some (P4 k (b≠0) (a.tdiv b))|.rem=>some ⟨some (b≠0),.d (.int k) (a.tmod b),none⟩|.eql=>some ⟨none,.d .bool (a==b),none⟩|.neq=>some ⟨none,.d .bool (a !=b),none⟩|.lss=>some ⟨none,.d .bool (decide (a<b)),none⟩|.leq=>some ⟨none,.d .bool (decide (a≤b)),none⟩|.gtr=>some ⟨none,.d .bool (decide (b<a)),none⟩|.geq=>some ⟨none,.d .bool (decide (b≤a)),none⟩|.and=>some ⟨none,.d (.int k) (k.wrap ((BitVec.ofInt k.bits a&&&BitVec.ofInt k.bits b).toNat:Int)),none⟩|.or=>some ⟨none,.d (.int k) (k.wrap ((BitVec.ofInt k.bits a|||BitVec.ofInt k.bits b).toNat:Int)),none⟩|_=>none
def QT(op:BinOp)(b:Bool):Option Av:=match op with|.eql=>some ⟨none,.d .bool b,none⟩|.neq=>some ⟨none,.d .bool !b,none⟩|_=>none
def Wl(τ:Ap)(op:BinOp)(xt:TypeId)(x y:V):Option Av:=match x with
 |.d (.int k) a=>match y with
  |.d (.int k') b=>match op with|.shl=>some ⟨some (0≤b),.d (.int k) (k.wrap (a*2^min b.toNat k.bits)),none⟩|.shr=>some ⟨some (0≤b),.d (.int k) (a.fdiv (2^min b.toNat k.bits)),none⟩|op=>match UY k k' with|true=>Ww (ZFF τ) op k a b|false=>none
  |_=>none
 |.d .bool a=>match y with
  |.d .bool b=>match τ xt with
   |some ⟨.bool,_,_,_,_⟩=>match op with|.eql=>some ⟨none,.d .bool (a==b),none⟩|.neq=>some ⟨none,.d .bool (a !=b),none⟩|_=>none
   |_=>none
  |_=>none
 |p=>match y with
  |.nilp=>match τ xt with
   |some ⟨.ptr,_,_,_,_⟩=>match p with|.nilp=>QT op true|.er _=>QT op false|.opt b (.er _)=>QT op !b|_=>none
   |_=>none
  |_=>none
def W8(op:UnOp)(x:V):Option Av:=match op with
 |.neg=>match x with|.d (.int k) n=>some (wr k (-n))|_=>none
 |.not=>match x with|.d .bool b=>some ⟨none,.d .bool !b,none⟩|_=>none
 |_=>none
def Kz(s:ByteArray):List Int:=s.data.toList.map λb=>(b.toNat:Int)
def CP(l:List Int):ByteArray:=⟨(l.map λn=>UInt8.ofNat n.toNat).toArray⟩
def VS(T:Ty)(os:AH):V→Option (List T.den×Option Prop)
 |.osl l=>match AB l os with|some (.row t xs)=>if h:t=T then some (h▸xs,none)else none|_=>none
 |.osp l lo n=>match AB l os with|some (.row t xs)=>if h:t=T then some (((h▸xs:List T.den).drop lo).take n,some (lo+n≤xs.length))else none|_=>none
 |v=>match QC T v with|some l=>some (l,none)|none=>none
def bQ(T:Ty)(os:AH):V→Option (List T.den×Option Prop)
 |.d .str s=>match T with|.int .u8=>some (Kz s,none)|_=>none
 |v=>VS T os v
def Ws(τ:Ap)(os:AH)(src dst:TypeId)(x:V):Option Av:=match τ src with
 |some ⟨.int _,_,_,_,_⟩=>match τ dst with
  |some ⟨.int k,_,_,_,_⟩=>match x with|.d (.int _) n=>some (wr k n)|_=>none
  |_=>none
 |some ⟨.sl e,_,_,_,_⟩=>match τ dst with
  |some ⟨.str,_,_,_,_⟩=>match τ e with
   |some ⟨.int .u8,_,_,_,_⟩=>match x with
    |.osl l=>match AB l os with|some (.row (.int .u8) xs)=>some ⟨none,.d .str (CP xs),none⟩|_=>none
    |.nils=>some ⟨none,.d .str ByteArray.empty,none⟩|_=>none
   |_=>none
  |_=>none
 |_=>none
def M0:List Value→List V|[]=>[]|v::l=>Vl v::M0 l
def Wj(τ:Ap)(n:Nat)(t:TypeId):Option Av:=match τ t with
 |some ⟨.arr m e,_,_,zero,_⟩=>match τ e with|some ⟨_,_,_,_,some T⟩=>some ⟨none,.rref n 0 0,some (n,.row T (List.replicate m T.dflt),false)⟩|some ⟨_,_,_,_,none⟩=>some ⟨none,.ref n 0,some (n,.box (M0 zero),false)⟩|none=>none
 |some ⟨_,_,_,zero,_⟩=>some ⟨none,.ref n 0,some (n,.box (M0 zero),false)⟩|none=>none
def Wm(n:Nat)(x:V):Option Av:=match x.scells with|some cs=>some ⟨none,.ref n 0,some (n,.box cs,false)⟩|none=>none
def Ou(offs:List (Nat×Nat)):List V→List (Nat×V)→Option (List V)|cs,[]=>some cs|cs,(i,v)::r=>match offs[i]? with
 |some (o,n)=>match v.scells with
  |some new=>match Nat.beq new.length n with
   |true=>match putCells cs o new with|some cs'=>Ou offs cs' r|none=>none
   |false=>none
  |none=>none
 |none=>none
def Wn(τ:Ap)(t:TypeId)(parts:List (Nat×V)):Option Av:=match τ t with
 |some ⟨.st offs,_,_,zero,_⟩=>match Ou offs (M0 zero) parts with|some cs=>some ⟨none,.agg cs,none⟩|none=>none
 |some ⟨.arr n e,_,_,zero,_⟩=>match τ e with
  |some ei=>match Ou ((List.range n).map λi=>(i*ei.size,ei.size)) (M0 zero) parts with|some cs=>some ⟨none,.agg cs,none⟩|none=>none
  |none=>none
 |_=>none
def QV(T:Ty):Nat→List (Nat×V)→Option (List T.den)|_,[]=>some []|n,(i,v)::r=>match Nat.beq i n with
 |true=>match v.scells with
  |some cs=>match GU T cs with
   |some x=>match QV T (n+1) r with|some l=>some (x::l)|none=>none
   |none=>none
  |none=>none
 |false=>none
def cellsOf:Nat→List (Nat×V)→Option (List V)|_,[]=>some []|n,(i,v)::r=>match Nat.beq i n with
 |true=>match v.solid with
  |true=>match cellsOf (n+1) r with|some l=>some (v::l)|none=>none
  |false=>none
 |false=>none
def Wo(τ:Ap)(n:Nat)(t:TypeId)(len:Nat)(parts:List (Nat×V)):Option Av:=match τ t with
 |some ⟨.sl e,_,_,_,_⟩=>match τ e with
  |some ⟨_,size,_,_,some T⟩=>match Nat.beq len parts.length&&Nat.ble (len*size) 16777216 with
   |true=>match QV T 0 parts with|some xs=>some ⟨none,.osl n,some (n,.row T xs,false)⟩|none=>none
   |false=>none
  |some ⟨_,size,_,_,none⟩=>match Nat.beq len parts.length&&Nat.ble len 16777216&&Nat.beq size 1&&Nat.blt 0 len with
   |true=>match cellsOf 0 parts with|some cs=>some ⟨none,.bsl n len,some (n,.box cs,false)⟩|none=>none
   |false=>none
  |none=>none
 |_=>none
def uW(τ:Ap)(zs:List Value)(T:Ty)(m:Nat):Obj:=match T with
 |.sl u=>match τ 2 with
  |none=>match zs with|[.slice none 0 0]=>.vrow u [] [] m|_=>.row (.sl u) (List.replicate m [])
  |some _=>.row (.sl u) (List.replicate m [])
 |T=>.row T (List.replicate m T.dflt)
def W1(τ:Ap)(n:Nat)(t:TypeId)(l c:V):Option Av:=match τ t with
 |some ⟨.sl e,_,_,_,_⟩=>match l with
  |.d (.int .i64) l=>match c with
   |.d (.int .i64) c=>match τ e with|some ⟨_,_,bytes,zs,some T⟩=>some ⟨some (0≤l∧l≤c∧c*bytes≤140737488355328∧c≤9223372036854775807),.osl n,some (n,uW τ zs T l.toNat,false)⟩|_=>none
   |_=>none
  |_=>none
 |_=>none
def bR(τ:Ap)(t:TypeId):Bool:=match τ t with|some ⟨.sl _,_,_,_,_⟩|some ⟨.str,_,_,_,_⟩=>true|_=>false
def Im(p:Prop):Option Prop→Prop|none=>p|some q=>q∧p
def ZB9(l:Nat):V→Bool|.osp k _ _=>Nat.beq k l|_=>false
def Oi(τ:Ap)(os:AH)(n:Nat)(ts tx:TypeId)(s x:V):Option Av:=match τ ts with
 |some ⟨.sl e,_,_,_,_⟩=>match τ e with
  |some ⟨_,_,bytes,_,some T⟩=>match bR τ tx with
   |true=>match bQ T os x with
    |some (ys,p)=>match s with
     |.nils=>some ⟨some (Im (ys.length*bytes≤140737488355328∧ys.length≤9223372036854775807) p),.osl n,some (n,.row T ys,false)⟩|.osl l=>match AB l os with|some (.row t xs)=>if h:t=T then some ⟨some (Im ((xs.length+ys.length)*bytes≤140737488355328∧xs.length+ys.length≤9223372036854775807) p),.osl l,some (l,.row T ((h▸xs:List T.den)++ys),true)⟩else none|_=>none
     |.osp l 0 k=>match AB l os with|some (.row t xs)=>if h:t=T then match ZB9 l x with|true=>some ⟨some (Im (k+ys.length≤xs.length) p),.osp l 0 (k+ys.length),some (l,.row T ((h▸xs:List T.den).take k++ys++(h▸xs:List T.den).drop (k+ys.length)),false)⟩|false=>some ⟨some (k≤xs.length∧Im ((k+ys.length)*bytes≤140737488355328∧k+ys.length≤9223372036854775807) p),.osl l,some (l,.row T ((h▸xs:List T.den).take k++ys),true)⟩else none|_=>none
     |_=>none
    |none=>none
   |false=>match τ tx with
    |some ⟨.int .i64,_,_,_,_⟩=>match x with
     |.d (.int .i64) m=>match s with
      |.nils=>some ⟨some (0≤m∧m*bytes≤140737488355328∧m≤9223372036854775807),.osl n,some (n,.row T (List.replicate m.toNat T.dflt),false)⟩|.osl l=>match AB l os with|some (.row t xs)=>if h:t=T then some ⟨some (0≤m∧(xs.length+m.toNat)*bytes≤140737488355328∧xs.length+m.toNat≤9223372036854775807),.osl l,some (l,.row T ((h▸xs:List T.den)++List.replicate m.toNat T.dflt),true)⟩else none|_=>none
      |_=>none
     |_=>none
    |_=>none
  |_=>none
 |_=>none
def Wx(τ:Ap)(os:AH)(t:TypeId)(x:V):Option Av:=match τ t with
 |some ⟨.sl _,_,_,_,_⟩=>match x with
  |.d (.sl T) l=>some ⟨none,.d (.int .i64) (List.length (α:=T.den) l:Int),none⟩|.nils=>some ⟨none,.d (.int .i64) (0:Int),none⟩|.osl l=>match AB l os with|some (.row _ xs)=>some ⟨none,.d (.int .i64) (xs.length:Int),none⟩|_=>none
  |.osp _ _ n=>some ⟨none,.d (.int .i64) (n:Int),none⟩|.bsl _ n=>some ⟨none,.d (.int .i64) (n:Int),none⟩|_=>none
 |some ⟨.str,_,_,_,_⟩=>match x with|.d .str s=>some ⟨none,.d (.int .i64) (s.size:Int),none⟩|_=>none
 |some ⟨.arr n _,_,_,_,_⟩=>some ⟨none,.d (.int .i64) (n:Int),none⟩|_=>none
def QL{α:Type}(xs ys:List α)(lo n:Nat):List α:=xs.take lo++ys.take (min ys.length n)++xs.drop (lo+min ys.length n)
def Wt(τ:Ap)(os:AH)(td tx:TypeId)(d x:V):Option Av:=match τ td with
 |some ⟨.sl e,_,_,_,_⟩=>match τ tx with
  |some ⟨.sl _,_,_,_,_⟩=>match τ e with
   |some ⟨_,_,_,_,some T⟩=>match VS T os x with
    |some (ys,p)=>match d with
     |.osl l=>match AB l os with|some (.row t xs)=>if h:t=T then some ⟨p,.d (.int .i64) (min ys.length xs.length:Nat),some (l,.row T (QL (h▸xs:List T.den) ys 0 xs.length),false)⟩else none|_=>none
     |.osp l lo n=>match AB l os with|some (.row t xs)=>if h:t=T then some ⟨some (Im (lo+n≤xs.length) p),.d (.int .i64) (min ys.length n:Nat),some (l,.row T (QL (h▸xs:List T.den) ys lo n),false)⟩else none|_=>none
     |_=>none
    |none=>none
   |_=>none
  |_=>none
 |_=>none
def QU(mk:Nat→Nat→V)(base n:Nat)(lo hi:Option V):Option Av:=match lo with
 |none=>match hi with|none=>some ⟨none,mk base n,none⟩|some h=>match h with|.d (.int _) h=>some ⟨some (0≤h∧h≤(n:Int)),mk base h.toNat,none⟩|_=>none
 |some a=>match a with
  |.d (.int _) a=>match hi with|none=>some ⟨some (0≤a∧a≤(n:Int)),mk (base+a.toNat) (n-a.toNat),none⟩|some h=>match h with|.d (.int _) h=>some ⟨some (0≤a∧a≤h∧h≤(n:Int)),mk (base+a.toNat) (h.toNat-a.toNat),none⟩|_=>none
  |_=>none
def uV(lo hi mx:Option V):Bool:=match lo with
 |none=>match hi with
  |some (.d (.int _) (.ofNat 0))=>match mx with|some (.d (.int _) (.ofNat 0))=>true|_=>false
  |_=>false
 |_=>false
def Rj(mx:Option V)(n:Nat):Option (Option Prop):=match mx with|none=>some none|some (.d (.int _) m)=>some (some (m=(n:Int)))|_=>none
def qN(n m:Nat):Option V→Nat|none=>n|some _=>m
def W6(τ:Ap)(os:AH)(t:TypeId)(x:V)(lo hi mx:Option V):Option Av:=match τ t with
 |some ⟨.sl e,_,_,_,_⟩=>match τ e with
  |some ei=>match x with
   |.d (.sl T) l=>match Nat.beq T.size ei.size&&Nat.blt 0 T.size with
    |true=>match mx with
     |none=>match lo with
      |none=>match hi with|none=>some ⟨none,.d (.sl T) l,none⟩|some h=>match h with|.d (.int _) h=>some ⟨some (0≤h∧h≤(List.length (α:=T.den) l:Int)),.d (.sl T) (List.take (α:=T.den) h.toNat l),none⟩|_=>none
      |some a=>match a with
       |.d (.int _) a=>match hi with|none=>some ⟨some (0≤a∧a≤(List.length (α:=T.den) l:Int)),.d (.sl T) (List.drop (α:=T.den) a.toNat l),none⟩|some h=>match h with|.d (.int _) h=>some ⟨some (0≤a∧a≤h∧h≤(List.length (α:=T.den) l:Int)),.d (.sl T) ((List.take (α:=T.den) h.toNat l).drop a.toNat),none⟩|_=>none
       |_=>none
     |some _=>match uV lo hi mx with|true=>some ⟨none,.nils,none⟩|false=>none
    |false=>none
   |.osl l=>match AB l os with
    |some (.row T xs)=>match Nat.beq T.size ei.size with
     |true=>match Rj mx xs.length with
      |some m=>match QU (.osp l) 0 xs.length lo hi with
       |some ⟨ob,v,ed⟩=>match m with|none=>some ⟨ob,v,ed⟩|some m=>match hi with|some _=>some ⟨some (Im m ob),.any,none⟩|none=>none
       |none=>none
      |none=>none
     |false=>none
    |_=>none
   |.osp l base n=>match AB l os with
    |some (.row T xs)=>match Nat.beq T.size ei.size with
     |true=>match mx with
      |none=>match QU (.osp l) base (qN n (xs.length-base) hi) lo hi with|some ⟨ob,v,ed⟩=>some ⟨some (Im (base+n≤xs.length) ob),v,ed⟩|none=>none
      |some _=>none
     |false=>none
    |_=>none
   |.nils=>match mx with
    |none=>match QU (λ_ _=>.nils) 0 0 lo hi with|some o=>some o|none=>none
    |some _=>none
   |_=>none
  |none=>none
 |_=>none
def TP(mx:Bool)(x y:V):Option Av:=match x with
 |.d (.int k) a=>match y with
  |.d (.int k') b=>match UY k k' with
   |true=>match mx with|true=>some ⟨none,.d (.int k) (max a b),none⟩|false=>some ⟨none,.d (.int k) (min a b),none⟩
   |false=>none
  |_=>none
 |_=>none
def Bu{α β:Type}[DecidableEq α](m:α→Option β)(k:α)(x:β):α→Option β:=λj=>if j=k then some x else m j
def W0(τ:Ap)(n:Nat)(t:TypeId):Option Av:=match τ t with
 |some ⟨.map k e,_,_,_,_⟩=>match τ e with
  |some ⟨_,_,_,_,some T⟩=>match Nat.beq T.size 1 with
   |true=>match τ k with|some ⟨.str,_,_,_,_⟩=>some ⟨none,.map n,some (n,.smap T λ_=>none,false)⟩|some ⟨.int .i64,_,_,_,_⟩=>some ⟨none,.map n,some (n,.imap T λ_=>none,false)⟩|_=>none
   |false=>none
  |_=>none
 |_=>none
def XU(ok:Bool)(T:Ty)(x:Option T.den):V:=match ok with|true=>.tup [.d T (x.getD T.dflt),.d .bool x.isSome]|false=>.d T (x.getD T.dflt)
def Wz(τ:Ap)(os:AH)(t:TypeId)(m k:V)(ok:Bool):Option Av:=match τ t with
 |some ⟨.map kt e,_,_,_,_⟩=>match m with
  |.map l=>match τ e with
   |some ⟨_,_,_,_,some T⟩=>match τ kt with
    |some ⟨.str,_,_,_,_⟩=>match AB l os with
     |some (.smap T' f)=>match k with|.d .str s=>if T'=T then match Nat.beq T.size 1 with|true=>some ⟨none,XU ok T' (f s),none⟩|false=>none else none|_=>none
     |_=>none
    |some ⟨.int .i64,_,_,_,_⟩=>match AB l os with
     |some (.imap T' f)=>match k with|.d (.int .i64) n=>if T'=T then match Nat.beq T.size 1 with|true=>some ⟨none,XU ok T' (f n),none⟩|false=>none else none|_=>none
     |_=>none
    |_=>none
   |_=>none
  |_=>none
 |_=>none
def W3(τ:Ap)(os:AH)(t:TypeId)(m k x:V):Option Av:=match τ t with
 |some ⟨.map kt e,_,_,_,_⟩=>match m with
  |.map l=>match τ kt with
   |some ⟨.str,_,_,_,_⟩=>match AB l os with
    |some (.smap T f)=>match k with
     |.d .str s=>match GU T [x]with|some y=>some ⟨none,.tup [],some (l,.smap T (Bu f s y),false)⟩|none=>none
     |_=>none
    |_=>none
   |some ⟨.int .i64,_,_,_,_⟩=>match AB l os with
    |some (.imap T f)=>match k with
     |.d (.int .i64) n=>match GU T [x]with|some y=>some ⟨none,.tup [],some (l,.imap T (Bu f n y),false)⟩|none=>none
     |_=>none
    |_=>none
   |_=>none
  |_=>none
 |_=>none
def Wr(τ:Ap)(os:AH)(t:TypeId)(x:V):Option Av:=match τ t with
 |some ⟨.sl e,_,_,_,_⟩=>match x with
  |.osp l lo n=>match τ e with
   |some ⟨_,_,_,_,some T⟩=>match AB l os with|some (.row t xs)=>if t=T then some ⟨some (lo+n≤xs.length),.tup [],some (l,.row t (xs.take lo++List.replicate n t.dflt++xs.drop (lo+n)),false)⟩else none|_=>none
   |_=>none
  |_=>none
 |_=>none
def QS(τ:Ap)(t:TypeId)(x ix:V):Option Av:=match τ t with
 |some ⟨.arr n e,_,_,_,_⟩=>match x with
  |.agg cs=>match ix with
   |.d (.int _) (.ofNat i)=>match τ e with
    |some ei=>match Nat.blt i n&&Nat.beq ei.size 1&&!ei.isAgg&&ei.k.known with
     |true=>match cs[i]? with|some v=>some ⟨none,v,none⟩|none=>none
     |false=>none
    |none=>none
   |_=>none
  |_=>none
 |_=>none
def Wq(τ:Ap)(os:AH)(n:Nat)(b:Builtin)(ts:List TypeId)(args:List V):Option Av:=match b with
 |.len=>match ts with
  |[t]=>match args with|[x]=>Wx τ os t x|_=>none
  |_=>none
 |.append=>match ts with
  |[t,u]=>match args with|[s,x]=>Oi τ os n t u s x|_=>none
  |_=>none
 |.copy=>match ts with
  |[t,u]=>match args with|[d,x]=>Wt τ os t u d x|_=>none
  |_=>none
 |.min=>match args with|[x,y]=>TP false x y|_=>none
 |.max=>match args with|[x,y]=>TP true x y|_=>none
 |.clear=>match ts with
  |[t]=>match args with|[x]=>Wr τ os t x|_=>none
  |_=>none
 |.cap=>match ts with
  |[t]=>match args with
   |[.nils]=>match τ t with|some ⟨.sl _,_,_,_,_⟩=>some ⟨none,.d (.int .i64) (0:Int),none⟩|_=>none
   |_=>none
  |_=>none
 |_=>none
def Sy:V→Option (Option Prop×Bool)|.d .bool b=>some (none,b)|.when g (.d .bool b)=>some (some (g=true),b)|_=>none
def VC(c:Bool):Option Prop→Option Prop→Option Prop|none,none=>none|some p,none=>some (c=true→p)|none,some q=>some (c=false→q)|some p,some q=>some ((c=true→p)∧(c=false→q))
def W5(a b:Operand)(c x y:V):Option Av:=match c with
 |.d .bool c=>match Sy x with
  |some (gx,x)=>match Sy y with
   |some (gy,y)=>match a with|.const (.bool true)=>some ⟨VC c none gy,.d .bool (c||y),none⟩|_=>match b with|.const (.bool false)=>some ⟨VC c gx none,.d .bool (c&&x),none⟩|_=>some ⟨VC c gx gy,.d .bool (cond c x y),none⟩
   |none=>none
  |none=>none
 |_=>none
def B3(tmps:List (Nat×V)):List Operand→List V|[]=>[]|x::l=>Au tmps x::B3 tmps l
def Ll(tmps:List (Nat×V)):List (Nat×Operand)→List (Nat×V)|[]=>[]|(i,x)::l=>(i,Au tmps x)::Ll tmps l
def U4(tmps:List (Nat×V)):Option Operand→Option V|none=>none|some x=>some (Au tmps x)
def QR(τ:Ap)(op:Op)(tmps:List (Nat×V))(os:AH)(n:Nat):Option Av:=match op with
 |.move x=>some ⟨none,Au tmps x,none⟩|.assign x=>some ⟨none,Au tmps x,none⟩|.pick c a b=>W5 a b (Au tmps c) (Au tmps a) (Au tmps b)|.alloc t=>Wj τ n t|.box _ x=>Wm n (Au tmps x)|.build t parts=>Wn τ t (Ll tmps parts.toList)|.buildSlice t m parts=>Wo τ n t m (Ll tmps parts.toList)|.load t a=>Wy τ os t (Au tmps a)|.store t a x=>W7 τ os t (Au tmps a) (Au tmps x)|.nilCheck x=>match Au tmps x with|.ref l o=>some ⟨none,.ref l o,none⟩|.er cs=>some ⟨none,.er cs,none⟩|.opt b (.er cs)=>some ⟨some (b=true),.er cs,none⟩|.fn (.func f) a b=>some ⟨none,.fn (.func f) a b,none⟩|_=>none
 |.binOp op xt x y _=>Wl τ op xt (Au tmps x) (Au tmps y)|.unOp op _ x=>W8 op (Au tmps x)|.convert a b x=>Ws τ os a b (Au tmps x)|.makeFunc f a b=>some ⟨none,.fn f (B3 tmps a.toList) (B3 tmps b.toList),none⟩|.makeSlice t l c=>W1 τ n t (Au tmps l) (Au tmps c)|.slice t x lo hi mx=>W6 τ os t (Au tmps x) (U4 tmps lo) (U4 tmps hi) (U4 tmps mx)|.fieldAddr t x f=>Wu τ os t (Au tmps x) f|.indexAddr t x i=>Wv τ os t (Au tmps x) (Au tmps i)|.index t x i=>QS τ t (Au tmps x) (Au tmps i)|.makeMap t none=>W0 τ n t|.lookup t m k ok=>Wz τ os t (Au tmps m) (Au tmps k) ok|.mapUpdate t m k x=>W3 τ os t (Au tmps m) (Au tmps k) (Au tmps x)|.extract x i=>match Au tmps x with
  |.tup vs=>match vs[i]? with|some v=>some ⟨none,v,none⟩|none=>none
  |_=>none
 |.call {callee:=.builtin b,args,argTypes}=>Wq τ os n b argTypes.toList (B3 tmps args.toList)|_=>none
section
section inv
variable {P : Program} {E : AF} {c : Value}
theorem AC.int_inv{k:IntKind}{n:Int}(h:AC P E (.d (.int k) n) c):c=.int k n:=by cases h with|d h=>simpa[BZ]using h
theorem AC.bool_inv{b:Bool}(h:AC P E (.d .bool b) c):c=.bool b:=by cases h with|d h=>simpa[BZ]using h
theorem AC.str_inv{s:ByteArray}(h:AC P E (.d .str s) c):c=.string s:=by cases h with|d h=>simpa[BZ]using h
theorem AC.mk_int(k:IntKind)(n:Int):AC P E (.d (.int k) n) (.int k n):=.d rfl
theorem AC.mk_bool(b:Bool):AC P E (.d .bool b) (.bool b):=.d rfl
theorem AC.mk_str(s:ByteArray):AC P E (.d .str s) (.string s):=.d rfl
theorem dU{T:Ty}{v:V}{l:List T.den}(h:QC T v=some l)(r:AC P E v c):BZ E.w E.S (.sl T) l [c]:=by
 unfold QC at h;split at h
 ·split at h;·rename_i ht;subst ht;cases h;cases r with|d h=>exact h
  ·cases h
 ·cases h;cases r;exact⟨_,_,rfl,⟨ZGR _,ZHu _⟩,λh=>absurd rfl h⟩
 ·cases h
def AZ(P:Program)(E:AF)(vs:List V)(cs:List Value):Prop:=cs.length=vs.length∧∀j,j<vs.length→AC P E (vs.getD j .any) (cs.getD j undef)
theorem AZ.nil:AZ P E [] []:=⟨rfl,λj h=>absurd h (by simp)⟩
theorem AZ.cons{v:V}{vs:List V}{c:Value}{cs:List Value}(h:AC P E v c)(r:AZ P E vs cs):AZ P E (v::vs) (c::cs):=⟨by simp[r.1],λj hj=>by cases j with|zero=>simpa using h|succ j=>simpa using r.2 j (by simpa using hj)⟩
theorem AZ.head{v:V}{vs:List V}{c:Value}{cs:List Value}(r:AZ P E (v::vs) (c::cs)):AC P E v c:=by simpa using r.2 0 (by simp)
theorem AZ.tail{v:V}{vs:List V}{c:Value}{cs:List Value}(r:AZ P E (v::vs) (c::cs)):AZ P E vs cs:=⟨by simpa using r.1,λj hj=>by simpa using r.2 (j+1) (by simpa using hj)⟩
theorem AZ.append{vs ws:List V}{cs ds:List Value}(h:AZ P E vs cs)(k:AZ P E ws ds):AZ P E (vs++ws) (cs++ds):=by induction vs generalizing cs with|nil=>have :cs=[]:=ZGY (by simpa using h.1);subst this;simpa using k|cons v vs ih=>cases cs with|nil=>have :=h.1;simp at this|cons c cs=>exact .cons h.head (ih h.tail)
theorem AZ.take{vs:List V}{cs:List Value}(h:AZ P E vs cs)(n:Nat):AZ P E (vs.take n) (cs.take n):=by induction vs generalizing cs n with|nil=>have :cs=[]:=ZGY (by simpa using h.1);subst this;simpa using h|cons v vs ih=>cases cs with|nil=>have :=h.1;simp at this|cons c cs=>cases n with|zero=>exact .nil|succ n=>exact .cons h.head (ih h.tail n)
theorem AZ.drop{vs:List V}{cs:List Value}(h:AZ P E vs cs)(n:Nat):AZ P E (vs.drop n) (cs.drop n):=by induction n generalizing vs cs with|zero=>simpa using h|succ n ih=>cases vs with|nil=>have :cs=[]:=ZGY (by simpa using h.1);subst this;simpa using h|cons v vs=>cases cs with|nil=>have :=h.1;simp at this|cons c cs=>simpa using ih h.tail
theorem AZ.mono{E':AF}(hx:CK E E' []){vs:List V}{cs:List Value}(h:AZ P E vs cs):AZ P E' vs cs:=⟨h.1,λj hj=>(h.2 j hj).mono hx⟩
theorem MC:∀{t:Ty}{x:t.den}{cs:List Value},BZ E.w E.S t x cs→AZ P E (flat t x) cs|.int _,_,_,h=>by have h':=h;rw[show _=_ from h]at h'⊢;exact .cons (.d h') .nil|.bool,_,_,h=>by have h':=h;rw[show _=_ from h]at h'⊢;exact .cons (.d h') .nil|.str,_,_,h=>by have h':=h;rw[show _=_ from h]at h'⊢;exact .cons (.d h') .nil|.sl _,_,_,h=>by have h':=h;obtain⟨a,c,rfl,_⟩:=h;exact .cons (.d h') .nil|.pair _ _,_,_,⟨c1,c2,h,h1,h2⟩=>by rw[h];exact(MC h1).append (MC h2)|.unit,_,_,h=>by rw[show _=_ from h];exact .nil
theorem AZ.single{v:V}{cs:List Value}(r:AZ P E [v] cs):∃c,cs=[c]∧AC P E v c:=by match cs,r with|[],r=>have :=r.1;simp at this|[c],r=>exact⟨c,rfl,r.head⟩|_::_::_,r=>have :=r.1;simp at this
theorem UZ{a b:IntKind}(h:UY a b=true):a=b:=by cases a<;>cases b<;>first|rfl|cases h
theorem IW:∀{t:Ty}{vs:List V}{x:t.den}{cs:List Value},GU t vs=some x→AZ P E vs cs→BZ E.w E.S t x cs
 |.int k,vs,x,cs,h,r=>by
  simp only[GU,Pg]at h;split at h
  ·split at h;·rename_i hk;cases h;rw[←UZ hk];obtain⟨c,rfl,h'⟩:=r.single;rw[h'.int_inv];rfl
   ·cases h
  ·cases h|.bool,vs,x,cs,h,r=>by
  simp only[GU,Zv]at h;split at h;·cases h;obtain⟨c,rfl,h'⟩:=r.single;rw[h'.bool_inv];rfl
  ·cases h|.str,vs,x,cs,h,r=>by
  simp only[GU,Zw]at h;split at h;·cases h;obtain⟨c,rfl,h'⟩:=r.single;rw[h'.str_inv];rfl
  ·cases h|.sl t,vs,x,cs,h,r=>by
  simp only[GU,qR]at h;split at h;·obtain⟨c,rfl,h'⟩:=r.single;exact dU h h'
  ·cases h|.pair a b,vs,x,cs,h,r=>by
  simp only[GU]at h;split at h
  ·rename_i p hp;split at h;·rename_i q hq;cases h;exact⟨cs.take a.size,cs.drop a.size,(ZHv _ _).symm,IW hp (r.take _),IW hq (r.drop _)⟩
   ·cases h
  ·cases h|.unit,vs,x,cs,h,r=>by
  simp only[GU,qS]at h;split at h;·exact ZGY (by simpa using r.1)
  ·cases h
theorem Vm(c:Value):AC P E (Vl c) c:=by
 unfold Vl;split;·exact .mk_int _ _
 ·exact .mk_bool _
 ·exact .mk_str _
 ·exact .nils _
 ·exact .nilp
 ·exact .nilf
 ·exact .nilm
 ·rename_i vs;split;·rename_i h;exact .tup (by simpa using ZGr List.length h) λj hj=>absurd hj (by simp)
  ·exact .any _
 ·exact .any _
theorem Vq(vs:List Value):AZ P E (M0 vs) vs:=by induction vs with|nil=>exact .nil|cons v vs ih=>exact .cons (Vm v) ih
theorem SM:∀{v:V}{c:Value},v.solid=true→AC P E v c→c.oneCell'=true
 |.any,_,h,_=>by simp[V.solid]at h|.when ..,_,h,_=>by simp[V.solid]at h|.tup _,_,h,_=>by simp[V.solid]at h|.agg _,_,h,_=>by simp[V.solid]at h|.opt b v,c,h,r=>by cases r with|opt h1 h2=>cases b with|true=>exact SM (by simpa[V.solid]using h) (h1 rfl)|false=>rw[h2 rfl];rfl
 |.d t x,c,_,r=>by cases r with|d h=>exact h.one c (by simp)
 |.nilp,c,_,r=>by cases r;rfl|.nilf,c,_,r=>by cases r;rfl|.nils,c,_,r=>by cases r;rfl|.nilm,c,_,r=>by cases r;rfl|.fn ..,c,_,r=>by cases r;rfl|.er _,c,_,r=>by cases r;rfl|.ref ..,c,_,r=>by cases r;rfl|.rref ..,c,_,r=>by cases r;rfl|.osl ..,c,_,r=>by cases r;rfl|.osp ..,c,_,r=>by cases r with|osp _ h=>obtain⟨a,h,_⟩:=h;rw[h];rfl
 |.map _,c,_,r=>by cases r;rfl|.pf ..,c,_,r=>by cases r with|pf h=>obtain⟨g,a,b,h,_⟩:=h;rw[h];rfl
 |.yl _,c,_,r=>by cases r;rfl|.bsl ..,c,_,r=>by cases r;rfl
theorem WT{c:Value}(h:c.oneCell'=true):c.cells=#[c]:=by cases c<;>simp[Value.oneCell']at h<;>rfl
theorem dK:∀{l:List V},Sr l=true→∀v∈l,v.solid=true
 |[],_,v,h=>by simp at h|u::l,h,v,hv=>by
  unfold Sr at h;split at h
  ·rename_i hu;rcases List.mem_cons.1 hv with rfl|hv;·exact hu
   ·exact dK h v hv
  ·cases h
theorem VK{v:V}{cs:List V}{c:Value}(h:v.scells=some cs)(r:AC P E v c):AZ P E cs c.cells.toList∧∀u∈c.cells.toList,u.oneCell'=true:=by
 unfold V.scells at h;split at h
 ·split at h;·rename_i ds hs;cases h;cases r with|agg h1 h2=>
   rename_i a;have hr:AZ P E cs a.toList:=⟨by simpa using h1,λj hj=>by simpa[ZGV,ZGG]using h2 j hj⟩;refine⟨hr,λu hu=>?_⟩;change u∈a.toList at hu;obtain⟨j,hj,rfl⟩:=List.getElem_of_mem hu;have hj':j<cs.length:=by rw[←hr.1];exact hj
   have :=hr.2 j hj';simp only[ZGG,ZGU hj,ZGU hj',ZIe]at this;exact SM (dK hs _ (ZKE hj')) this
  ·cases h
 ·split at h;·rename_i hs;cases h;have h1:=SM hs r;rw[WT h1];refine⟨.cons r .nil,λu hu=>?_⟩;simp at hu;subst hu;exact h1
  ·cases h
end inv
end
section
variable {P : Program}
theorem pE{f:V→V}(hf:f .any=.any)(t:Nat):∀l:List (Nat×V),Ag t (l.map λp=>(p.1,f p.2))=f (Ag t l)
 |[]=>hf.symm|(u,v)::l=>by
  rw[ZGi,DG,DG];split;·rfl
  ·exact pE hf t l
theorem N1(f:V→V)(t:Nat)(l:List (Nat×V)):Ag t (l.map λp=>(p.1,p.2.subst f))=(Ag t l).subst f:=pE (f:=V.subst f) rfl t l
theorem JN(f:V→V)(l:Nat):∀objs:AH,AB l (substO f objs)=(AB l objs).map (Obj.subst f)
 |[]=>rfl|(k,o)::r=>by
  rw[substO,BA,BA];split;·rfl
  ·exact JN f l r
theorem Obj.has_subst{f:V→V}{o:Obj}{L:Ai}:(o.subst f).has L↔o.has L:=by cases o<;>exact ZJC
theorem qQ{f:V→V}{E:AF}{objs:AH}{b:Nat}:Bp E (substO f objs) b↔Bp E objs b:=by
 constructor;·rintro⟨l,o,L,h1,h2,h3,h4⟩;rw[JN,ZGo]at h1;obtain⟨o',h5,rfl⟩:=h1;exact⟨l,o',L,h5,h2,Obj.has_subst.1 h3,h4⟩
 ·rintro⟨l,o,L,h1,h2,h3,h4⟩;exact⟨l,o.subst f,L,by rw[JN,h1];rfl,h2,Obj.has_subst.2 h3,h4⟩
theorem Ay.keepS{E E':AF}{L:Ai}{o:Obj}{f:V→V}(h:Ay P E L o)(hr:∀v c,AC P E v c→AC P E' (v.subst f) c)(hS:∀b,E.S b→E'.S b∧E'.w.heap[b]?=E.w.heap[b]?)(hb:o.has L→E'.w.heap[L.b]?=E.w.heap[L.b]?):Ay P E' L (o.subst f):=by cases o with
 |dead=>trivial|box cs=>
  obtain⟨vals,t,h2,h3,h4⟩:=h;have len:(DI f cs).length=cs.length:=by rw[Jf,ZGM]
  exact⟨vals,t,by rw[hb trivial];exact h2,by rw[len];exact h3,λj hj=>by rw[len]at hj;rw[K5 hj];exact hr _ _ (h4 j hj)⟩|row t xs=>
  obtain⟨h1,h2,h3,e,cs,h4,h5⟩:=h;refine⟨h1,h2,h3,e,cs,h4.mono hS,?_⟩;rcases h5 with h5|⟨cur,h5,h6,h7,h8,h9⟩;·exact .inl h5
  ·exact .inr ⟨cur,h5,by rw[hb (by simp only[Obj.has];omega)];exact h6,h7,h8,h9⟩|vrow t xs s m=>
  obtain⟨h1,h2,h3,e,cs,h4,h5⟩:=h;have len:(DI f s).length=s.length:=by rw[Jf,ZGM]
  refine⟨h1,by rw[len];exact h2,by rw[len];exact h3,e,cs,h4.mono hS,?_⟩;rcases h5 with h5|⟨cur,h5,h6,h7,h8,h9,Bx,FC,C1,G8⟩;·exact .inl h5
  ·exact .inr ⟨cur,h5,by rw[hb (by simp only[Obj.has];omega)];exact h6,h7,h8,h9,Bx,FC,λj hj=>by rw[len]at hj;rw[K5 hj];exact hr _ _ (C1 j hj),by rw[len];exact G8⟩|smap t m=>obtain⟨es,c,h2,h3⟩:=h;exact⟨es,c,by rw[hb trivial];exact h2,h3.mono hS⟩|imap t m=>obtain⟨es,c,h2,h3⟩:=h;exact⟨es,c,by rw[hb trivial];exact h2,h3.mono hS⟩|lrec nt tmps ps a b st j=>obtain⟨r,h1,h2,h3,h4⟩:=h;exact⟨r,by rw[hb trivial];exact h1,h2,λt=>by rw[N1];exact hr _ _ (h3 t),h4⟩|dfb=>exact(hb trivial).trans h
theorem Ay.keep{E E':AF}{L:Ai}{o:Obj}(h:Ay P E L o)(hx:CK E E' [])(hb:o.has L→E'.w.heap[L.b]?=E.w.heap[L.b]?):Ay P E' L o:=by cases o with
 |dead=>trivial|box cs=>obtain⟨vals,t,h2,h3,h4⟩:=h;exact⟨vals,t,by rw[hb trivial];exact h2,h3,λj hj=>(h4 j hj).mono hx⟩|row t xs=>
  obtain⟨h1,h2,h3,e,cs,h4,h5⟩:=h;refine⟨h1,h2,h3,e,cs,h4.mono hx.S,?_⟩;rcases h5 with h5|⟨cur,h5,h6,h7,h8,h9⟩;·exact .inl h5
  ·exact .inr ⟨cur,h5,by rw[hb (by simp only[Obj.has];omega)];exact h6,h7,h8,h9⟩|vrow t xs s m=>
  obtain⟨h1,h2,h3,e,cs,h4,h5⟩:=h;refine⟨h1,h2,h3,e,cs,h4.mono hx.S,?_⟩;rcases h5 with h5|⟨cur,h5,h6,h7,h8,h9,Bx,FC,C1,G8⟩;·exact .inl h5
  ·exact .inr ⟨cur,h5,by rw[hb (by simp only[Obj.has];omega)];exact h6,h7,h8,h9,Bx,FC,λj hj=>(C1 j hj).mono hx,G8⟩|smap t m=>obtain⟨es,c,h2,h3⟩:=h;exact⟨es,c,by rw[hb trivial];exact h2,h3.mono hx.S⟩|imap t m=>obtain⟨es,c,h2,h3⟩:=h;exact⟨es,c,by rw[hb trivial];exact h2,h3.mono hx.S⟩|lrec nt tmps ps a b st j=>obtain⟨r,h1,h2,h3,h4⟩:=h;exact⟨r,by rw[hb trivial];exact h1,h2,λt=>(h3 t).mono hx,h4⟩|dfb=>exact(hb trivial).trans h
def AF.setL(E:AF)(w:World)(l:Nat)(L:Ai):AF:=⟨w,E.S,λj=>if j=l then some L else E.loc j⟩
theorem CJ(E:AF)(w:World)(l:Nat)(L:Ai):(E.setL w l L).loc l=some L:=ZGE rfl
theorem B4(E:AF)(w:World){l j:Nat}(L:Ai)(h:j≠l):(E.setL w l L).loc j=E.loc j:=ZGA h
theorem World.grownBy_refl'(w:World):w.grownBy w none:=⟨rfl,rfl,rfl,ZGR _,λ_ _ _=>rfl⟩
theorem Rw{E:AF}{objs:AH}(g:AE P E objs){w:World}{l:Nat}(L:Ai)(hf:E.loc l=none)(hw:E.w.grownBy w none):CK E (E.setL w l L) []:=⟨λb hb=>⟨hb,hw.block b (g.sl b hb) (by simp)⟩,λj K _ hj=>by
 have hne:j≠l:=by rintro rfl;rw[hf]at hj;cases hj
 rw[B4 _ _ _ hne];exact hj⟩
theorem Is{k l:Nat}{o:Obj}{r:AH}(h:AB k ((l,o)::r)=none):k≠l∧AB k r=none:=by
 rw[BA]at h;split at h;·cases h
 ·rename_i e;exact⟨λe'=>e e'.symm,h⟩
theorem jR{k l:Nat}{o:Obj}{mv:Bool}{r:AH}(h:AB k (edit r (some (l,o,mv)))=none):k≠l∧AB k r=none:=by cases mv with|false=>exact Is h|true=>obtain⟨h1,h2⟩:=Is h;rw[JN]at h2;exact⟨h1,by simpa using h2⟩
theorem AE.push{E:AF}{objs:AH}(g:AE P E objs){w:World}{l:Nat}{L:Ai}{o:Obj}(hf:E.loc l=none)(hw:E.w.grownBy w none)(ho:Ay P (E.setL w l L) L o)(hb:o.has L→E.w.heap.size≤L.b):AE P (E.setL w l L) ((l,o)::objs)∧BL E objs (E.setL w l L) ((l,o)::objs) []:=by
 have hx:=Rw g L hf hw;have hne:∀{j p},AB j objs=some p→j≠l:=by rintro j p h rfl;obtain⟨K,hK,_⟩:=g.at_ _ _ h;rw[hf]at hK;cases hK
 have BR:∀j p,AB j ((l,o)::objs)=some p→j≠l∧AB j objs=some p∨j=l∧p=o:=by
  intro j p h;rw[BA]at h;split at h;·rename_i e;exact .inr ⟨e.symm,by cases h;rfl⟩
  ·rename_i e;exact .inl ⟨λe'=>e e'.symm,h⟩
 have D6:∀b,Bp (E.setL w l L) ((l,o)::objs) b→Bp E objs b∨E.w.heap.size≤b:=by
  rintro b⟨j,p,K,h1,h2,h3,h4⟩;rcases BR j p h1 with⟨hn,h⟩|⟨rfl,rfl⟩;·rw[B4 _ _ _ hn]at h2;exact .inl ⟨j,p,K,h,h2,h3,h4⟩
  ·rw[CJ]at h2;cases h2;exact .inr (h4▸hb h3)
 refine⟨⟨λj p h=>?_,λb h hs=>?_,λb h=>ZIB (g.sl b h) hw.size,g.tab.mono hx.S,λi j p q K K' h1 h2 h3 h4 h5 h6 h7=>?_⟩,⟨hx,hw.os,hw.tape,hw.output,hw.size,λb h _=>hw.block b h (by simp),λb h=>(D6 b h).elim .inr .inl,λb h=>.inl h,λk h=>(Is h).2,λk h=>B4 _ _ _ (Is h).1⟩⟩
 ·rcases BR j p h with⟨hn,h⟩|⟨rfl,rfl⟩;·obtain⟨K,hK,ha⟩:=g.at_ j p h;exact⟨K,by rw[B4 _ _ _ hn];exact hK,ha.keep hx λhh=>hw.block _ (ha.block_lt hh) (by simp)⟩
  ·exact⟨L,CJ _ _ _ _,ho⟩
 ·rcases D6 b h with h|h;·exact g.ns b h hs
  ·have :=g.sl b hs;omega
 ·rcases BR i p h1 with⟨hi,k1⟩|⟨rfl,rfl⟩<;>rcases BR j q h2 with⟨hj,k2⟩|⟨rfl,rfl⟩;·rw[B4 _ _ _ hi]at h3;rw[B4 _ _ _ hj]at h4;exact g.inj i j p q K K' k1 k2 h3 h4 h5 h6 h7
  ·rw[B4 _ _ _ hi]at h3;rw[CJ]at h4;cases h4;obtain⟨K0,Fy,ha⟩:=g.at_ i p k1;rw[h3]at Fy;cases Fy;have :=ha.block_lt h5;have :=hb h6;omega
  ·rw[B4 _ _ _ hj]at h4;rw[CJ]at h3;cases h3;obtain⟨K0,Fy,ha⟩:=g.at_ j q k2;rw[h4]at Fy;cases Fy;have :=ha.block_lt h6;have :=hb h5;omega
  ·rfl
theorem OC{E:AF}{objs:AH}(g:AE P E objs){w:World}{l:Nat}{L L':Ai}{o:Obj}{row:Option Nat}{M:List Nat}(hl:AB l objs=some o)(hL:E.loc l=some L)(hw:E.w.grownBy w row)(DN:∀b,row=some b→o.has L∧b=L.b)(hM:l∉M→L'=L):CK E (E.setL w l L') M:=⟨λb hs=>⟨hs,hw.block b (g.sl b hs) (by intro e;obtain⟨h1,h2⟩:=DN b e.symm;exact g.ns b ⟨l,o,L,hl,hL,h1,h2.symm⟩ hs)⟩,λj K hj hK=>by
 by_cases hne:j=l;·subst hne;rw[hL]at hK;cases hK;rw[CJ,hM hj]
 ·rw[B4 _ _ _ hne];exact hK⟩
theorem RY{E E':AF}{l:Nat}(hx:CK E E' [l]){v:V}{c:Value}(r:AC P E v c):AC P E' (v.subst (Di l)) c:=by refine K6 hx.S (λv c hv r=>?_) r;have loc:∀{k L},E.loc k=some L→k≠l→E'.loc k=some L:=λh hne=>hx.loc _ _ (by simpa using hne) h;cases r<;>simp only[V.isRef,ZGh]at hv<;>simp only[Di,V.key]<;>split<;>first|exact .any _|(rename_i e;have hne:=ZHZ e;have hl:=loc (by assumption) hne;first|exact .ref hl|exact .rref hl|exact .osl hl|exact .osp hl (by assumption)|exact .map hl|exact .yl hl|exact .bsl hl)
theorem AE.put{E:AF}{objs:AH}(g:AE P E objs){w:World}{l:Nat}{L L':Ai}{o o':Obj}{row:Option Nat}{mv:Bool}(hl:AB l objs=some o)(hL:E.loc l=some L)(hw:E.w.grownBy w row)(DN:∀b,row=some b→o.has L∧b=L.b)(Gr:mv=false→L'=L)(ho:Ay P (E.setL w l L') L' o')(hb:o'.has L'→o.has L∧L'.b=L.b∨E.w.heap.size≤L'.b):AE P (E.setL w l L') (edit objs (some (l,o',mv)))∧BL E objs (E.setL w l L') (edit objs (some (l,o',mv))) (moved (some (l,o',mv))):=by
 have hM:l∉moved (some (l,o',mv))→L'=L:=by cases mv with|false=>exact λ_=>Gr rfl|true=>intro h;simp[moved]at h
 have hx:=OC g (M:=moved (some (l,o',mv))) hl hL hw DN hM;have ZFd:∀b,E.S b→some b≠row:=by intro b hs e;obtain⟨h1,h2⟩:=DN b e.symm;exact g.ns b ⟨l,o,L,hl,hL,h1,h2.symm⟩ hs
 have BR:∀j p,AB j (edit objs (some (l,o',mv)))=some p→(j≠l∧∃q,AB j objs=some q∧(∀K,p.has K↔q.has K)∧∀K,Ay P E K q→(q.has K→w.heap[K.b]?=E.w.heap[K.b]?)→Ay P (E.setL w l L') K p)∨j=l∧p=o':=by intro j p h;cases mv with
  |false=>
   have UV:=OC g (M:=[]) hl hL hw DN λ_=>Gr rfl;simp only[edit,BA]at h;split at h;·rename_i e;exact .inr ⟨e.symm,by cases h;rfl⟩
   ·rename_i e;exact .inl ⟨λe'=>e e'.symm,p,h,λ_=>ZJC,λK ha hk=>ha.keep UV hk⟩|true=>
   simp only[edit,BA]at h;split at h;·rename_i e;exact .inr ⟨e.symm,by cases h;rfl⟩
   ·rename_i e;rw[JN,ZGo]at h;obtain⟨q,hq,rfl⟩:=h;exact .inl ⟨λe'=>e e'.symm,q,hq,λ_=>Obj.has_subst,λK ha hk=>ha.keepS (λv c r=>RY hx r) hx.S hk⟩
 have D6:∀b,Bp (E.setL w l L') (edit objs (some (l,o',mv))) b→Bp E objs b∨E.w.heap.size≤b:=by
  rintro b⟨j,p,K,h1,h2,h3,h4⟩;rcases BR j p h1 with⟨hn,q,hq,hh,_⟩|⟨rfl,rfl⟩;·rw[B4 _ _ _ hn]at h2;exact .inl ⟨j,q,K,hq,h2,(hh K).1 h3,h4⟩
  ·rw[CJ]at h2;cases h2;rcases hb h3 with⟨h5,h6⟩|h5;·exact .inl ⟨j,o,L,hl,hL,h5,by rw[←h6,h4]⟩
   ·exact .inr (h4▸h5)
 refine⟨⟨λj p h=>?_,λb h hs=>?_,λb h=>ZIB (g.sl b h) hw.size,g.tab.mono hx.S,λi j p q K K' h1 h2 h3 h4 h5 h6 h7=>?_⟩,⟨hx,hw.os,hw.tape,hw.output,hw.size,λb h hn=>hw.block b h λe=>?_,λb h=>(D6 b h).elim .inr .inl,λb h=>.inl h,λk h=>(jR h).2,λk h=>B4 _ _ _ (jR h).1⟩⟩
 ·rcases BR j p h with⟨hn,q,hq,hh,hc⟩|⟨rfl,rfl⟩;·obtain⟨K,hK,ha⟩:=g.at_ j q hq;refine⟨K,by rw[B4 _ _ _ hn];exact hK,hc K ha λEU=>hw.block _ (ha.block_lt EU) λe=>hn ?_⟩;obtain⟨h6,h7⟩:=DN _ e.symm;exact g.inj j l q o K L hq hl hK hL EU h6 h7
  ·exact⟨L',CJ _ _ _ _,ho⟩
 ·rcases D6 b h with h|h;·exact g.ns b h hs
  ·have :=g.sl b hs;omega
 ·rcases BR i p h1 with⟨hi,p',k1,hp,_⟩|⟨rfl,rfl⟩<;>rcases BR j q h2 with⟨hj,q',k2,hq,_⟩|⟨rfl,rfl⟩;·rw[B4 _ _ _ hi]at h3;rw[B4 _ _ _ hj]at h4;exact g.inj i j p' q' K K' k1 k2 h3 h4 ((hp K).1 h5) ((hq K').1 h6) h7
  ·rw[B4 _ _ _ hi]at h3;rw[CJ]at h4;cases h4;rcases hb h6 with⟨h8,h9⟩|h8;·exact g.inj i j p' o K L k1 hl h3 hL ((hp K).1 h5) h8 (h7.trans h9)
   ·obtain⟨K0,Fy,ha⟩:=g.at_ i p' k1;rw[h3]at Fy;cases Fy;have :=ha.block_lt ((hp K).1 h5);omega
  ·rw[B4 _ _ _ hj]at h4;rw[CJ]at h3;cases h3;rcases hb h5 with⟨h8,h9⟩|h8;·exact g.inj i j o q' L K' hl k2 hL h4 h8 ((hq K').1 h6) (h9.symm.trans h7)
   ·obtain⟨K0,Fy,ha⟩:=g.at_ j q' k2;rw[h4]at Fy;cases Fy;have :=ha.block_lt ((hq K').1 h6);omega
  ·rfl
 ·obtain⟨h6,h7⟩:=DN b e.symm;exact hn ⟨l,o,L,hl,hL,h6,h7.symm⟩
def AF.still(E:AF)(b:Nat)(has:Prop):AF:=⟨E.w,λk=>E.S k∨has∧k=b,E.loc⟩
theorem AE.still{E:AF}{objs:AH}(g:AE P E objs){l:Nat}{o:Obj}{L:Ai}(hl:AB l objs=some o)(hL:E.loc l=some L):AE P (E.still L.b (o.has L)) ((l,.dead)::objs)∧BL E objs (E.still L.b (o.has L)) ((l,.dead)::objs) []:=by
 have hx:CK E (E.still L.b (o.has L)) []:=⟨λb hs=>⟨.inl hs,rfl⟩,λj K _ hK=>hK⟩;have BR:∀j p,AB j ((l,Obj.dead)::objs)=some p→j≠l∧AB j objs=some p∨j=l∧p=.dead:=by
  intro j p h;rw[BA]at h;split at h;·rename_i e;exact .inr ⟨e.symm,by cases h;rfl⟩
  ·rename_i e;exact .inl ⟨λe'=>e e'.symm,h⟩
 have D6:∀b,Bp (E.still L.b (o.has L)) ((l,.dead)::objs) b→∃j p K,j≠l∧AB j objs=some p∧E.loc j=some K∧p.has K∧K.b=b:=by
  rintro b⟨j,p,K,h1,h2,h3,h4⟩;rcases BR j p h1 with⟨hne,h⟩|⟨rfl,rfl⟩;·exact⟨j,p,K,hne,h,h2,h3,h4⟩
  ·exact h3.elim
 refine⟨⟨λj p h=>?_,λb h hs=>?_,?_,g.tab.mono hx.S,λi j p q K K' h1 h2 h3 h4 h5 h6 h7=>?_⟩,⟨hx,rfl,rfl,rfl,ZGR _,λ_ _ _=>rfl,λb h=>?_,λb h=>?_,λk h=>(Is h).2,λ_ _=>rfl⟩⟩
 ·rcases BR j p h with⟨hne,h⟩|⟨rfl,rfl⟩;·obtain⟨K,hK,ha⟩:=g.at_ j p h;exact⟨K,hK,ha.keep hx λ_=>rfl⟩
  ·exact⟨L,hL,trivial⟩
 ·obtain⟨j,p,K,hne,h1,h2,h3,h4⟩:=D6 b h;rcases hs with hs|⟨hh,e⟩;·exact g.ns b ⟨j,p,K,h1,h2,h3,h4⟩ hs
  ·exact hne (g.inj j l p o K L h1 hl h2 hL h3 hh (h4.trans e))
 ·rintro b(hs|⟨hh,rfl⟩);·exact g.sl b hs
  ·exact g.own_lt ⟨l,o,L,hl,hL,hh,rfl⟩
 ·rcases BR i p h1 with⟨hi,h1⟩|⟨rfl,rfl⟩
  ·rcases BR j q h2 with⟨hj,h2⟩|⟨rfl,rfl⟩;·exact g.inj i j p q K K' h1 h2 h3 h4 h5 h6 h7
   ·exact h6.elim
  ·exact h5.elim
 ·obtain⟨j,p,K,hne,h1,h2,h3,h4⟩:=D6 b h;exact .inr ⟨j,p,K,h1,h2,h3,h4⟩
 ·rcases h with h|⟨hh,e⟩;·exact .inl h
  ·exact .inr (.inr ⟨l,o,L,hl,hL,hh,e.symm⟩)
theorem AE.grow{E:AF}{objs:AH}(g:AE P E objs){w:World}{S:Nat→Prop}(h:JE E.w E.S w S):AE P ⟨w,S,E.loc⟩ objs∧BL E objs ⟨w,S,E.loc⟩ objs []:=by
 have hx:CK E ⟨w,S,E.loc⟩ []:=⟨λb hs=>⟨h.up b hs,h.frame b (g.sl b hs)⟩,λ_ _ _ hK=>hK⟩;refine⟨⟨λj p hj=>?_,λb ho hs=>?_,h.lt,g.tab.mono hx.S,g.inj⟩,⟨hx,h.os,h.tape,h.output,h.size,λb hb _=>h.frame b hb,λb hb=>.inr hb,λb hb=>(h.st b hb).imp_right .inl,λ_ h=>h,λ_ _=>rfl⟩⟩;·obtain⟨K,hK,ha⟩:=g.at_ j p hj;exact⟨K,hK,ha.keep hx λhh=>h.frame _ (ha.block_lt hh)⟩
 ·have Ab:=g.own_lt (b:=b) ho;rcases h.st b hs with hs|hs;·exact g.ns b ho hs
  ·omega
def AF.at(E:AF)(w:World):AF:={E with w:=w}
theorem AE.at{E:AF}{objs:AH}(g:AE P E objs){w:World}(h:w.heap=E.w.heap)(h0:E.w.drawn≤w.drawn)(h1:w.os=E.w.os)(h2:w.tape=E.w.tape)(h3:w.output=E.w.output):AE P (E.at w) objs∧BL E objs (E.at w) objs []:=g.grow (w:=w) (S:=E.S) ⟨h0,h1,h2,h3,by rw[h];exact ZGR _,λb _=>by rw[h],λ_ h=>h,λ_ h=>.inl h,λb hb=>by rw[h];exact g.sl b hb⟩
theorem AE.adopt{E:AF}{objs:AH}(g:AE P E objs){n:Nat}{K:Ai}{o:Obj}(hf:E.loc n=none)(ho:Ay P (E.setL E.w n K) K o)(hb:o.has K→¬E.S K.b∧¬Bp E objs K.b):AE P (E.setL E.w n K) ((n,o)::objs)∧∀(E0:AF)(imp:AH)(M:List Nat),BL E0 imp E objs M→(o.has K→E0.w.heap.size≤K.b∨Bp E0 imp K.b)→BL E0 imp (E.setL E.w n K) ((n,o)::objs) M:=by
 have hx:=Rw g K hf (World.grownBy_refl' E.w);have hne:∀{j p},AB j objs=some p→j≠n:=by rintro j p h rfl;obtain⟨L,hL,_⟩:=g.at_ _ _ h;rw[hf]at hL;cases hL
 have BR:∀j p,AB j ((n,o)::objs)=some p→j≠n∧AB j objs=some p∨j=n∧p=o:=by
  intro j p h;rw[BA]at h;split at h;·rename_i e;exact .inr ⟨e.symm,by cases h;rfl⟩
  ·rename_i e;exact .inl ⟨λe'=>e e'.symm,h⟩
 have D6:∀b,Bp (E.setL E.w n K) ((n,o)::objs) b→Bp E objs b∨o.has K∧b=K.b:=by
  rintro b⟨j,p,L,h1,h2,h3,h4⟩;rcases BR j p h1 with⟨hn,h⟩|⟨rfl,rfl⟩;·rw[B4 _ _ _ hn]at h2;exact .inl ⟨j,p,L,h,h2,h3,h4⟩
  ·rw[CJ]at h2;cases h2;exact .inr ⟨h3,h4.symm⟩
 refine⟨⟨λj p h=>?_,λb h hs=>?_,g.sl,g.tab,λi j p q L L' h1 h2 h3 h4 h5 h6 h7=>?_⟩,λE0 imp M st hk=>⟨⟨st.ext.S,λl L hl hL=>?_⟩,st.os,st.tape,st.output,st.size,st.frame,λb h=>(D6 b h).elim (st.own b) λ⟨h1,h2⟩=>h2▸hk h1,st.st,λl h=>st.keys l (Is h).2,λl h=>(B4 _ _ _ (Is h).1).trans (st.dom l (Is h).2)⟩⟩
 ·rcases BR j p h with⟨hn,h⟩|⟨rfl,rfl⟩;·obtain⟨L,hL,ha⟩:=g.at_ j p h;exact⟨L,by rw[B4 _ _ _ hn];exact hL,ha.keep hx λ_=>rfl⟩
  ·exact⟨K,CJ _ _ _ _,ho⟩
 ·rcases D6 b h with h'|⟨hh,e⟩;·exact g.ns b h' hs
  ·exact(hb hh).1 (e▸hs)
 ·rcases BR i p h1 with⟨hi,k1⟩|⟨rfl,rfl⟩<;>rcases BR j q h2 with⟨hj,k2⟩|⟨rfl,rfl⟩;·rw[B4 _ _ _ hi]at h3;rw[B4 _ _ _ hj]at h4;exact g.inj i j p q L L' k1 k2 h3 h4 h5 h6 h7
  ·rw[B4 _ _ _ hi]at h3;rw[CJ]at h4;cases h4;exact absurd ⟨i,p,L,k1,h3,h5,h7⟩ (hb h6).2
  ·rw[B4 _ _ _ hj]at h4;rw[CJ]at h3;cases h3;exact absurd ⟨j,q,L',k2,h4,h6,h7.symm⟩ (hb h5).2
  ·rfl
 ·by_cases e:l=n;·subst e;have :=st.ext.loc l L hl hL;rw[hf]at this;cases this
  ·rw[B4 _ _ _ e];exact st.ext.loc l L hl hL
theorem AE.remake{E:AF}{objs:AH}(g:AE P E objs){w:World}{l n:Nat}{L K:Ai}{o o':Obj}{row:Option Nat}(hl:AB l objs=some o)(hL:E.loc l=some L)(hf:E.loc n=none)(hw:E.w.grownBy w row)(DN:∀b,row=some b→o.has L∧b=L.b)(ho:∀lo,Ay P ⟨w,E.S,lo⟩ K o')(hb:o'.has K→o.has L∧K.b=L.b∨E.w.heap.size≤K.b):∃E',E'.w=w∧E'.loc n=some K∧AE P E' ((n,o')::(l,.dead)::objs)∧BL E objs E' ((n,o')::(l,.dead)::objs) []:=by
 have hp:=AE.put g (mv:=false) (o':=.dead) (L':=L) hl hL hw DN (λ_=>rfl) trivial λh=>h.elim;simp only[edit,moved]at hp;have IM:n≠l:=λe=>by subst e;rw[hf]at hL;cases hL
 have Gm:o'.has K→¬(E.setL w l L).S K.b∧¬Bp (E.setL w l L) ((l,.dead)::objs) K.b:=λhk=>by
  have hnd:∀b,Bp (E.setL w l L) ((l,.dead)::objs) b→∃j p M,j≠l∧AB j objs=some p∧E.loc j=some M∧p.has M∧M.b=b:=by
   rintro b⟨j,p,M,h1,h2,h3,h4⟩;rw[BA]at h1;split at h1;·cases h1;exact h3.elim
   ·rename_i e;rw[B4 _ _ _ (ZG6 e)]at h2;exact⟨j,p,M,ZG6 e,h1,h2,h3,h4⟩
  rcases hb hk with⟨h1,h2⟩|h1;·refine⟨λhs=>g.ns K.b ⟨l,o,L,hl,hL,h1,h2.symm⟩ hs,λho=>?_⟩;obtain⟨j,p,M,k1,k2,k3,k4,k5⟩:=hnd _ ho;exact k1 (g.inj j l p o M L k2 hl k3 hL k4 h1 (k5.trans h2))
  ·refine⟨λhs=>by have h2:=g.sl _ hs;omega,λho=>?_⟩;obtain⟨j,p,M,k1,k2,k3,k4,k5⟩:=hnd _ ho;have :=g.own_lt ⟨j,p,M,k2,k3,k4,k5⟩;omega
 have ha:=AE.adopt hp.1 (n:=n) (K:=K) (o:=o') (by rw[B4 _ _ _ IM];exact hf) (ho _) Gm;refine⟨_,rfl,CJ _ _ _ _,ha.1,ha.2 E objs [] hp.2 λhk=>?_⟩;rcases hb hk with⟨h1,h2⟩|h1;·exact .inr ⟨l,o,L,hl,hL,h1,h2.symm⟩
 ·exact .inl h1
end
section
def Bl(P:Program)(s:Sem Value)(E:AF)(objs:AH)(out:Av):Prop:=∃E' v,s.run P E.w=.ok v E'.w∧AE P E' (edit objs out.ed)∧BL E objs E' (edit objs out.ed) (moved out.ed)∧AC P E' out.v v
def dG(P:Program)(s:Sem Unit)(E:AF)(objs:AH)(out:Av):Prop:=∃E',s.run P E.w=.ok () E'.w∧AE P E' (edit objs out.ed)∧BL E objs E' (edit objs out.ed) (moved out.ed)
def DL(os objs:AH):Prop:=∀l o,AB l os=some o→AB l objs=some o
theorem AE.get{P:Program}{E:AF}{os objs:AH}(g:AE P E objs)(hs:DL os objs){l:Nat}{o:Obj}(h:AB l os=some o):∃L,E.loc l=some L∧AB l objs=some o∧Ay P E L o:=by obtain⟨L,h1,h2⟩:=g.at_ l o (hs l o h);exact⟨L,h1,hs l o h,h2⟩
variable {P : Program} {τ : Ap} {E : AF} {os objs : AH} {n : Nat}
theorem Bl.same{s:Sem Value}{v:Value}{a:V}{p:Option Prop}(g:AE P E objs)(h:s.run P E.w=.ok v E.w)(r:AC P E a v):Bl P s E objs ⟨p,a,none⟩:=⟨E,v,h,g,.refl _ _ _,r⟩
theorem nR{t:TypeId}{i:TypeInfo}(h:P.info? t=some i)(w:World):(typeInfo t).run P w=.ok i w:=by simp[typeInfo,h]
theorem I8{t:TypeId}{i:TypeInfo}(h:P.info? t=some i)(w:World):(sizeOf t).run P w=.ok i.size w:=by simp[sizeOf,nR h]
theorem M1{t:TypeId}{i:TypeInfo}{z:Value}(h:P.info? t=some i)(hz:i.zero=some z)(w:World):(zeroValue t).run P w=.ok z w:=by simp[zeroValue,nR h,hz]
def gI:TypeDesc→Bool|.struct _|.array _ _=>true|_=>false
theorem TI.Ok.desc{t:TypeId}{i:TI}(h:i.Ok P t):i.k.known=true→∃d,P.underlying t=some d∧gI d=i.isAgg:=by
 have hk:=h.kind;obtain⟨k,size,bytes,zero,code⟩:=i;cases k<;>simp only[TI.isAgg]at hk⊢;case int k=>exact λ_=>⟨_,hk,rfl⟩
 case bool=>exact λ_=>⟨_,hk,rfl⟩
 case str=>exact λ_=>⟨_,hk,rfl⟩
 case sl=>exact λ_=>⟨_,hk,rfl⟩
 case arr=>exact λ_=>⟨_,hk.1,rfl⟩
 case st=>obtain⟨fs,h1,_⟩:=hk;exact λ_=>⟨_,h1,rfl⟩
 case ptr=>obtain⟨e,h1⟩:=hk;exact λ_=>⟨_,h1,rfl⟩
 case map=>exact λ_=>⟨_,hk.1,rfl⟩
 case fn=>obtain⟨_,_,_,h1⟩:=hk;exact λ_=>⟨_,h1,rfl⟩
 case other=>intro h;cases h
theorem ZI{t:TypeId}{d:TypeDesc}(h:P.underlying t=some d)(w:World):(isAgg t).run P w=.ok (gI d) w:=by simp only[isAgg,ZG7,ZGX h,ZGm];cases d<;>rfl
theorem oZ{t:TypeId}{ti:TI}(ht:ti.Ok P t)(hk:ti.k.known=true)(w:World)(b off:Nat)(cs:List Value)(hl:cs.length=ti.size)(h:∀j u,cs[j]?=some u→w.cell? ⟨b,off+j,none⟩=some u)(ho:ti.isAgg=true∨cs.length=1):(loadVar t ⟨b,off,none⟩).run P w=.ok (if ti.isAgg then .agg cs.toArray else cs.getD 0 undef) w:=by
 obtain⟨d,hd,ha⟩:=ht.desc hk;obtain⟨info,z,hi,hs,_⟩:=ht.info;have hcells:=run_loadCells_list (P:=P) w ⟨b,off,none⟩ cs λj v hj=>by rw[ZHd];exact h j v hj
 cases hb:ti.isAgg with|true=>rw[hb]at ha;simp[loadVar,ZI hd,ha,I8 hi,hs,←hl,hcells]|false=>rw[hb]at ha ho;have h1:cs.length=1:=ho.resolve_left (by simp);obtain⟨c,rfl⟩:=List.length_eq_one_iff.1 h1;have :=h 0 c (by simp);simp only[ZHw]at this;simp[loadVar,ZG7,ZI hd,ha,ZGm,this]
theorem qL{agg:Bool}{cs:List V}{v:V}{vals:List Value}(h:Mj agg cs=some v)(r:AZ P E cs vals):AC P E v (if agg then .agg vals.toArray else vals.getD 0 undef)∧(agg=true∨vals.length=1):=by unfold Mj at h;cases agg with|true=>simp only[ZHa,ZHl]at h⊢;subst h;exact⟨.agg (by simpa using r.1) λj hj=>by simpa using r.2 j hj,.inl trivial⟩|false=>
 simp only[ZGh,ZHM]at h⊢;split at h;·cases h;exact⟨by simpa using r.2 0 (by simp),.inr (by simpa using r.1)⟩
 ·cases h
theorem SR:∀{n:Nat}{l cs:List V},Ls n l=some cs→cs=l.take n∧cs.length=n
 |0,l,cs,h=>by simp only[Ls]at h;cases h;exact⟨by simp,rfl⟩|n+1,v::l,cs,h=>by
  simp only[Ls]at h;split at h;·rename_i r hr;cases h;obtain⟨h1,h2⟩:=SR hr;exact⟨by rw[ZIw,←h1],by rw[ZGL,h2]⟩
  ·cases h|n+1,[],cs,h=>by simp[Ls]at h
theorem NG:∀(n:Nat)(l:List V),Jr n l=l.drop n|0,l=>by simp[Jr]|n+1,_::l=>by rw[Jr,NG n l,ZIJ]|n+1,[]=>by simp[Jr]
theorem KU{w:World}{b:Nat}{vals:Array Value}{t:TypeId}{fr:Nat×Nat}(h:w.heap[b]?=some (.cells vals t fr))(o:Nat):w.cell? ⟨b,o,none⟩=vals[o]?:=by simp[World.cell?,h]
theorem AZ.at_cells{w:World}{b:Nat}{vals:Array Value}{t:TypeId}{fr:Nat×Nat}{cs:List V}(h:w.heap[b]?=some (.cells vals t fr))(r:AZ P E cs vals.toList)(off n:Nat):AZ P E ((cs.drop off).take n) ((vals.toList.drop off).take n)∧∀j u,((vals.toList.drop off).take n)[j]?=some u→w.cell? ⟨b,off+j,none⟩=some u:=by
 refine⟨(r.drop off).take n,λj u hj=>?_⟩;rw[KU h];rw[ZGg]at hj;split at hj;·simpa using hj
 ·cases hj
theorem WO{L:Ai}{cs:List V}(h:Ay P E L (.box cs)):∃vals t,E.w.heap[L.b]?=some (.cells vals t (0,0))∧AZ P E cs vals.toList:=by obtain⟨vals,t,h1,h2,h3⟩:=h;exact⟨vals,t,h1,by simpa using h2,λj hj=>by simpa[ZGV,ZGG]using h3 j hj⟩
theorem rZ{L:Ai}{T:Ty}{xs:List T.den}(h:Ay P E L (.row T xs)){i:Nat}(hi:i<xs.length):∃cs,BZ E.w E.S T (xs.getD i T.dflt) cs∧∀j u,cs[j]?=some u→E.w.cell? ⟨L.b,i*T.size+j,none⟩=some u:=by
 obtain⟨_,_,_,e,cs,h1,h2⟩:=h;obtain⟨c,hc,hj⟩:=h1.get i xs[i] (ZGU hi);rcases h2 with⟨_,rfl⟩|⟨cur,_,h3,_,_,_,_,h4⟩;·simp at hi
 ·refine⟨c,by rw[ZGG,ZGU hi];exact hc,λj u hu=>?_⟩;rw[KU h3];have :=hj j u hu;rw[←h4,ZGg]at this;split at this;·simpa using this
  ·cases this
theorem Um{t:TypeId}{ti:TI}(ht:ti.Ok P t)(hk:ti.k.known=true)(g:AE P E objs){b off:Nat}{cs:List V}{vals:List Value}{a:V}{p:Option Prop}(r:AZ P E cs vals)(h:∀j u,vals[j]?=some u→E.w.cell? ⟨b,off+j,none⟩=some u)(hl:cs.length=ti.size)(ha:Mj ti.isAgg cs=some a):Bl P (Instr.loadAt t (.pointer (some ⟨b,off,none⟩))) E objs ⟨p,a,none⟩:=by obtain⟨r1,r2⟩:=qL ha r;have :=oZ ht hk E.w b off vals (r.1.trans hl) h r2;refine .same g (v:=if ti.isAgg then .agg vals.toArray else vals.getD 0 undef) ?_ (by split<;>simp_all);simp only[Instr.loadAt,Instr.sureAddr,ZG7,ZHe,ZGm,this]
theorem Po{l off:Nat}{c:Value}(r:AC P E (.ref l off) c):∃L,E.loc l=some L∧c=.pointer (some ⟨L.b,off,none⟩):=by cases r with|ref h=>exact⟨_,h,rfl⟩
theorem Ps{l i off:Nat}{c:Value}(r:AC P E (.rref l i off) c):∃L,E.loc l=some L∧c=.pointer (some ⟨L.b,i*L.esz+off,none⟩):=by cases r with|rref h=>exact⟨_,h,rfl⟩
theorem GQ{l:Nat}{c:Value}(r:AC P E (.osl l) c):∃L,E.loc l=some L∧c=L.v:=by cases r with|osl h=>exact⟨_,h,rfl⟩
theorem KJ{l lo n:Nat}{c:Value}(r:AC P E (.osp l lo n) c):∃L,E.loc l=some L∧L.Part lo n c:=by cases r with|osp h hp=>exact⟨_,h,hp⟩
theorem pJ{l:Nat}{c:Value}(r:AC P E (.map l) c):∃L,E.loc l=some L∧c=.map (some L.b):=by cases r with|map h=>exact⟨_,h,rfl⟩
theorem eG{l n:Nat}{c:Value}(r:AC P E (.bsl l n) c):∃L,E.loc l=some L∧c=.slice (some ⟨L.b,0,none⟩) n n:=by cases r with|bsl h=>exact⟨_,h,rfl⟩
theorem QX{cs:List V}{c:Value}(r:AC P E (.er cs) c):∃b off vals,c=.pointer (some ⟨b,off,none⟩)∧E.S b∧AZ P E cs vals∧∀j u,vals[j]?=some u→E.w.cell? ⟨b,off+j,none⟩=some u:=by cases r with|er f h1 h2 h3=>
 rename_i b off;refine⟨b,off,(List.range cs.length).map f,rfl,h1,⟨by simp,λj hj=>?_⟩,λj u hj=>?_⟩;·rw[ZGG (l:=List.map f _),ZHO,ZIY hj];exact h3 j hj
 ·rw[ZHO]at hj;rcases ZHj j cs.length with hl|hl;·rw[ZIY hl]at hj;simp at hj;subst hj;exact h2 j hl
  ·rw[ZHL (by simpa using hl)]at hj;simp at hj
theorem ZEA{L:Ai}{T:Ty}{xs:List (List T.den)}{v:V}{m:Nat}(h:Ay P E L (.vrow T xs [v] m)):∃u,AC P E v u∧E.w.cell? ⟨L.b,xs.length+0,none⟩=some u:=by
 obtain⟨h1,h2,h3,e,cs,h4,h5|⟨cur,h5,h6,h7,h8,h9,Bx,FC,C1,G8⟩⟩:=h;·have :=h5.2;simp at h3;omega
 ·refine⟨_,C1 0 (by simp),?_⟩;rw[KU h6,ZGV,ZHF (by simp at h3;omega)];rfl
theorem ZAH(hτ:BQ P τ){t:TypeId}{v:V}{out:Av}(h:Wy τ os t v=some out)(hs:DL os objs)(ho:BM out.ob)(g:AE P E objs){c:Value}(r:AC P E v c):Bl P (Instr.loadAt t c) E objs out:=by
 unfold Wy at h;split at h;·cases h
 ·rename_i ti BX;have ht:=hτ t ti BX;split at h;·cases h
  ·rename_i hk;split at h;·
    split at h
    ·rename_i cs hcs;split at h
     ·rename_i ds h1;split at h;·rename_i a h2;cases h;obtain⟨rfl,h3⟩:=SR h1;obtain⟨L,hL,_,hat⟩:=g.get hs hcs;obtain⟨K,hK,rfl⟩:=Po r;rw[hL]at hK;cases hK;obtain⟨vals,t',h4,h5⟩:=WO hat;rw[NG]at h2 h3;obtain⟨h6,h7⟩:=h5.at_cells h4 _ _;exact Um ht hk g h6 h7 h3 h2
      ·cases h
     ·cases h
    ·cases h
   ·rename_i cs;split at h
    ·rename_i ds h1;split at h
     ·rename_i a h2;cases h;obtain⟨rfl,h3⟩:=SR h1;obtain⟨b,off,vals,rfl,_,h4,h5⟩:=QX r;refine Um ht hk g (h4.take _) (λj u hj=>?_) h3 h2;rw[ZGg]at hj;split at hj;·exact h5 j u hj
      ·cases hj
     ·cases h
    ·cases h
   ·rename_i l i off;split at h
    ·rename_i T xs hcs;split at h
     ·rename_i ds h1;split at h
      ·rename_i a h2;cases h;obtain⟨rfl,h3⟩:=SR h1;obtain⟨L,hL,_,hat⟩:=g.get hs hcs;obtain⟨K,hK,rfl⟩:=Ps r;rw[hL]at hK;cases hK;obtain⟨cs,h4,h5⟩:=rZ hat (show i<xs.length from ho);rw[hat.1];rw[NG]at h2 h3;refine Um ht hk g (((MC h4).drop off).take _) (λj u hj=>?_) h3 h2;rw[ZGg]at hj;split at hj;·rw[ZKp];exact h5 _ u (by simpa using hj)
       ·cases hj
      ·cases h
     ·cases h
    ·rename_i T xs s m hcs;split at h
     ·rename_i v;split at h
      ·rename_i hb;simp only[ZGW]at hb;split at h
       ·rename_i a h2;cases h;obtain⟨L,hL,_,hat⟩:=g.get hs hcs;obtain⟨K,hK,rfl⟩:=Ps r;rw[hL]at hK;cases hK;have hi:i=xs.length:=ho;obtain⟨u,h3,h4⟩:=ZEA hat;rw[ZGJ hb.1,hat.1,ZIM,ZHw,hi];refine Um (cs:=[v]) (vals:=[u]) ht hk g ⟨rfl,λj hj=>?_⟩ (λj w hj=>?_) (ZGJ hb.2).symm h2
        ·obtain rfl:j=0:=by simp at hj;exact hj
         exact h3
        ·have Hv:j=0:=by have :=(List.getElem?_eq_some_iff.1 hj).1;simp at this;exact this
         subst Hv;cases hj;exact h4
       ·cases h
      ·cases h
     ·cases h
    ·cases h
   ·cases h
theorem Tg(w:World)(g:Nat)(cs:Array Value):w.grownBy (w.setRow g cs) (some g):=⟨rfl,rfl,rfl,by simp,λk _ hk=>setRow_other w g k _ λe=>hk (by rw[e])⟩
theorem ZDM{cs new cs':List V}{off:Nat}(h:putCells cs off new=some cs'):off+new.length≤cs.length∧cs'=cs.take off++new++cs.drop (off+new.length):=by
 unfold putCells at h;split at h;·rename_i hb;cases h;exact⟨ZGk hb,by rw[NG,ZGy]⟩
 ·cases h
theorem AZ.put{cs new cs':List V}{vals vs:List Value}{off:Nat}(h:putCells cs off new=some cs')(r:AZ P E cs vals)(rn:AZ P E new vs):AZ P E cs' (vals.take off++vs++vals.drop (off+vs.length))∧off+vs.length≤vals.length:=by obtain⟨h1,rfl⟩:=ZDM h;rw[rn.1,r.1];exact⟨((r.take off).append rn).append (r.drop _),h1⟩
theorem VT{t:TypeId}{ti:TI}(ht:ti.Ok P t)(w:World)(b off:Nat)(e:TypeId)(cur:Array Value)(v:Value)(hl:v.cells.toList.length=ti.size)(hb:w.heap[b]?=some (.cells cur e (0,0)))(DY:off+v.cells.toList.length≤cur.size)(h1:∀u∈v.cells.toList,u.oneCell'=true):(storeVar t ⟨b,off,none⟩ v).run P w=.ok () (w.setRow b (cur.toList.take off++v.cells.toList++cur.toList.drop (off+v.cells.toList.length)).toArray):=by
 obtain⟨info,z,hi,hs,_⟩:=ht.info;have BO:=ZI9 P b off e v.cells.toList 0 cur w hb (by simpa using DY) h1;simp only[ZHw]at BO;have :v.cells.size=ti.size:=by simpa using hl
 simp[storeVar,I8 hi,hs,this,BO]
theorem uC{T:Ty}:∀{n:Nat}{new:List V}{ys:List T.den}{vs:List Value},P2 T n new=some ys→AZ P E new vs→A8 E.w E.S T ys vs∧ys.length=n
 |0,[],ys,vs,h,r=>by simp only[P2,ZHl]at h;subst h;exact⟨ZGY r.1,rfl⟩|0,_::_,ys,vs,h,r=>by simp[P2]at h|n+1,new,ys,vs,h,r=>by
  unfold P2 at h;split at h
  ·rename_i x hx;split at h
   ·rename_i l hl;split at h;·cases h;obtain⟨h1,h2⟩:=uC hl (r.drop T.size);exact⟨⟨vs.take T.size,vs.drop T.size,(ZHv _ _).symm,IW hx (r.take T.size),h1⟩,by rw[ZGL,h2]⟩
    ·cases h
   ·cases h
  ·cases h
theorem aY{l:Nat}{L:Ai}{T:Ty}{xs ys:List T.den}{cur':List Value}{mv:Bool}(g:AE P E objs)(hl:AB l objs=some (.row T xs))(hL:E.loc l=some L)(hat:Ay P E L (.row T xs))(FU:0<L.cap)(FY:ys.length≤L.cap)(Gr:mv=false→ys.length=xs.length)(hc:A8 E.w E.S T ys (cur'.take (ys.length*T.size)))(hlen:cur'.length=L.cap*T.size):AE P (E.setL (E.w.setRow L.b cur'.toArray) l {L with len:=ys.length}) (edit objs (some (l,.row T ys,mv)))∧BL E objs (E.setL (E.w.setRow L.b cur'.toArray) l {L with len:=ys.length}) (edit objs (some (l,.row T ys,mv))) (moved (some (l,.row T ys,mv))):=by
 obtain⟨h1,h2,h3,e,cs,h4,h5⟩:=hat;rcases h5 with h5|⟨cur,h5,h6,h7,h8,h9,Bx,FC⟩;·omega
 ·have EU:(Obj.row T xs).has L:=by simp only[Obj.has];omega
  have hgr:=Tg E.w L.b cur'.toArray;have DN:∀b,some L.b=some b→(Obj.row T xs).has L∧b=L.b:=λb e=>⟨EU,by cases e;rfl⟩;have hL':mv=false→({L with len:=ys.length}:Ai)=L:=λe=>by rw[Gr e,←h3]
  have hS:∀b,E.S b→E.S b∧(E.w.setRow L.b cur'.toArray).heap[b]?=E.w.heap[b]?:=λb hs=>⟨hs,hgr.block b (g.sl b hs) λe=>by cases e;exact g.ns L.b ⟨l,_,L,hl,hL,EU,rfl⟩ hs⟩;refine AE.put g hl hL hgr DN hL' ⟨h1,h2,rfl,e,_,hc.mono hS,.inr ⟨_,h5,ZKV _ _ _ _ _ _ h6,FY,FU,h9,?_,by simp⟩⟩ λ_=>.inl ⟨EU,rfl⟩;simpa using hlen
theorem ZAO(hτ:BQ P τ){t:TypeId}{a x:V}{out:Av}(h:W7 τ os t a x=some out)(hs:DL os objs)(ho:BM out.ob)(g:AE P E objs){c d:Value}(ra:AC P E a c)(rx:AC P E x d):dG P (Instr.storeAt t c d) E objs out∧out.v=.tup []:=by
 unfold W7 at h;split at h;·cases h
 ·rename_i ti BX;have ht:=hτ t ti BX;split at h;·cases h
  ·rename_i new BW;obtain⟨rn,IN⟩:=VK BW rx;split at h;·cases h
   ·rename_i Am;have hl:d.cells.toList.length=ti.size:=rn.1.trans (ZGJ Am);split at h
    ·rename_i l off;split at h
     ·rename_i cs hcs;split at h;·rename_i cs' h1;cases h;obtain⟨L,hL,Al,hat⟩:=g.get hs hcs;obtain⟨K,hK,rfl⟩:=Po ra;rw[hL]at hK;cases hK;obtain⟨vals,t',h4,h5⟩:=WO hat;obtain⟨h6,h7⟩:=h5.put h1 rn;have hrun:=VT ht E.w _ off t' vals d hl h4 (by simpa using h7) IN;have hgr:=Tg E.w L.b (vals.toList.take off++d.cells.toList++vals.toList.drop (off+d.cells.toList.length)).toArray;have DN:∀b,some L.b=some b→(Obj.box cs).has L∧b=L.b:=λb e=>⟨trivial,by cases e;rfl⟩;have hx:=OC g (M:=[]) Al hL hgr DN λ_=>rfl;have h8:=h6.mono hx;have BW:=AE.put g (mv:=false) (o':=.box cs') Al hL hgr DN (λ_=>rfl) ⟨_,t',ZKV _ _ _ _ _ _ h4,by simpa using h8.1,λj hj=>by simpa[ZGV,ZGG]using h8.2 j hj⟩ λ_=>.inl ⟨trivial,rfl⟩;exact⟨⟨_,by simp only[Instr.storeAt,Instr.sureAddr,ZG7,ZHe,ZGm];exact hrun,BW.1,BW.2⟩,rfl⟩
      ·cases h
     ·cases h
    ·rename_i l i off;split at h
     ·rename_i T xs hcs;obtain⟨L,hL,Al,hat⟩:=g.get hs hcs;obtain⟨K,hK,rfl⟩:=Ps ra;rw[hL]at hK;cases hK;have Kc:=hat;obtain⟨ER,AU,hlen,e,cs,h9,Bx⟩:=hat;split at h;·
       rename_i n e0 hk;split at h
       ·rename_i Qz;simp only[ZGW]at Qz;obtain⟨h0,NP⟩:=Qz;obtain rfl:=ZGJ h0;obtain rfl:=ZGJ NP;split at h
        ·rename_i ys h1;cases h;obtain⟨h2,h3⟩:=uC h1 rn;have hn:n=xs.length:=ho;have hn0:0<n:=by have :=ht.kind;rw[hk]at this;obtain⟨_,_,_,_,_,_,_,h,_⟩:=this;exact h
         rcases Bx with⟨_,rfl⟩|⟨cur,Bk,CA,KH,Kr,PX,Ks,Kt⟩;·simp at hn;omega
         ·have Xe:=h2.length;rw[h3,hn]at Xe;have FU:xs.length*T.size≤L.cap*T.size:=ZHB _ KH;have DY:0+d.cells.toList.length≤cur.size:=by rw[Ks,Xe];omega
          have hrun:=VT ht E.w _ 0 e cur d hl CA DY IN;have BW:=aY (mv:=false) (ys:=ys) (cur':=cur.toList.take 0++d.cells.toList++cur.toList.drop (0+d.cells.toList.length)) g Al hL Kc Kr (by omega) λ_=>by omega (by rw[h3,hn,ZJu,ZG8,←Xe,ZJt];exact h2) (by simp only[ZGI,ZGP,ZG1,ZGn]at DY⊢;omega);exact⟨⟨_,by simp only[Instr.storeAt,Instr.sureAddr,ZG7,ZHe,ZGm,ZJR,ZHw]at hrun⊢;exact hrun,BW.1,BW.2⟩,rfl⟩
        ·cases h
       ·cases h
      ·split at h
       ·rename_i cs' h1;split at h
        ·rename_i y h2;cases h;have hi:i<xs.length:=ho;obtain⟨ce,h4,h5⟩:=rZ Kc hi;obtain⟨h6,h7⟩:=(MC h4).put h1 rn;have h8:=IW h2 h6;have ZFk:=h4.length;rcases Bx with⟨_,rfl⟩|⟨cur,Bk,CA,KH,Kr,PX,Ks,Kt⟩;·simp at hi
         ·have hmul:i*T.size+T.size≤xs.length*T.size:=by rw[←ZHS];exact ZHB _ hi
          have FU:xs.length*T.size≤L.cap*T.size:=ZHB _ KH;have DY:i*T.size+off+d.cells.toList.length≤cur.size:=by rw[Ks];omega
          have hrun:=VT ht E.w _ (i*T.size+off) e cur d hl CA DY IN;have FD:=I9 (A:=cur.toList) (vs:=d.cells.toList) (o:=i*T.size+off) (by simpa using DY);have ZBu:=I9 (A:=ce) (vs:=d.cells.toList) (o:=off) h7;have FC:A8 E.w E.S T (xs.set i y) ((cur.toList.take (i*T.size+off)++d.cells.toList++cur.toList.drop (i*T.size+off+d.cells.toList.length)).take (xs.length*T.size)):=by
           refine A8.of_get (by simp only[ZGP,ZGI,ZG1,ZHr,ZGn];omega) λi' x hx'=>?_;rw[ZJ7]at hx';split at hx'
           ·rename_i Ek;subst Ek;have RR:y=x:=by simpa[hi]using hx'
            subst RR;refine⟨_,h8,λj u hu=>?_⟩;have IJ:j<T.size:=by have :=(List.getElem?_eq_some_iff.1 hu).1;have :=h8.length;omega
            rw[ZGg,ZGE (by omega),FD];rw[ZBu]at hu;by_cases c1:j<off;·rw[ZGE c1]at hu;rw[ZGE (by omega)];have :=h5 j u hu;rw[KU CA]at this;simpa using this
            ·rw[ZGA c1]at hu;rw[ZGA (by omega)];by_cases c2:j<off+d.cells.toList.length;·rw[ZGE c2]at hu;rw[ZGE (by omega),show i*T.size+j-(i*T.size+off)=j-off from by omega];exact hu
             ·rw[ZGA c2]at hu;rw[ZGA (by omega)];have :=h5 j u hu;rw[KU CA]at this;simpa using this
           ·rename_i Ek;obtain⟨c,hc,hj⟩:=h9.get i' x hx';have hi':i'<xs.length:=(List.getElem?_eq_some_iff.1 hx').1;have hcl:=hc.length;refine⟨c,hc,λj u hu=>?_⟩;have IJ:j<T.size:=by have :=(List.getElem?_eq_some_iff.1 hu).1;omega
            have hm':i'*T.size+T.size≤xs.length*T.size:=by rw[←ZHS];exact ZHB _ hi'
            have hne:i'*T.size+T.size≤i*T.size∨i*T.size+T.size≤i'*T.size:=by
             rcases ZHj i' i with Ab|FW;·left;rw[←ZHS];exact ZHB _ Ab
             ·right;rw[←ZHS];exact ZHB _ (by omega)
            have C1:=hj j u hu;rw[←Kt,ZGg,ZGE (by omega)]at C1;rw[ZGg,ZGE (by omega),FD];rcases hne with hne|hne;·rw[ZGE (by omega)];exact C1
            ·rw[ZGA (by omega),ZGA (by omega)];exact C1
          have BW:=aY (mv:=false) (ys:=xs.set i y) (cur':=cur.toList.take (i*T.size+off)++d.cells.toList++cur.toList.drop (i*T.size+off+d.cells.toList.length)) g Al hL Kc Kr (by simpa using KH) λ_=>by simp (by simpa using FC) (by simp only[ZGI,ZGP,ZG1,ZGn]at DY⊢;omega);exact⟨⟨_,by rw[ER];simp only[Instr.storeAt,Instr.sureAddr,ZG7,ZHe,ZGm];exact hrun,BW.1,BW.2⟩,rfl⟩
        ·cases h
       ·cases h
     ·rename_i T xs s m hcs;split at h
      ·rename_i v0;split at h
       ·rename_i v;split at h
        ·rename_i RC;cases h;have RC:=ZGJ RC;subst RC;have hi:i=xs.length:=ho;subst hi;obtain⟨L,hL,Al,hat⟩:=g.get hs hcs;obtain⟨K,hK,rfl⟩:=Ps ra;rw[hL]at hK;cases hK;obtain⟨ER,h2,hlen,e,cs,h4,h5|⟨cur,h5,h6,h7,h8,h9,Bx,FC,C1,G8⟩⟩:=hat;·have :=h5.2;simp at hlen;omega
         ·have EJ:d.cells.toList.length=1:=rn.1;have DD:d.cells.size=1:=by simpa using EJ
          have Ab:xs.length<cur.size:=by simp at hlen;omega
          have hrun:=VT ht E.w _ xs.length e cur d hl h6 (by omega) IN;have hgr:=Tg E.w L.b (cur.toList.take xs.length++d.cells.toList++cur.toList.drop (xs.length+d.cells.toList.length)).toArray;have EU:(Obj.vrow T xs [v0] m).has L:=by simp only[Obj.has];omega
          have DN:∀b,some L.b=some b→(Obj.vrow T xs [v0] m).has L∧b=L.b:=λb e=>⟨EU,by cases e;rfl⟩;have hx:=OC g (M:=[]) Al hL hgr DN λ_=>rfl;have FD:=I9 (A:=cur.toList) (vs:=d.cells.toList) (o:=xs.length) (by simp;omega);have BW:=AE.put g (mv:=false) (o':=.vrow T xs [v] m) Al hL hgr DN (λ_=>rfl) ⟨ER,h2,hlen,e,cs,h4.mono hx.S,.inr ⟨_,h5,ZKV _ _ _ _ _ _ h6,h7,h8,h9,by simp only[ZII,ZGI,ZGP,ZG1,ZGn];omega,by
           rw[←FC];apply ZHX;intro j;rw[ZGg,ZGg];split;·rename_i hj;rw[FD,ZGE hj]
           ·rfl,λj hj=>by
           have Hv:j=0:=by simp at hj;exact hj
           subst Hv;have h3:=(rn.2 0 (by simp)).mono hx;rw[ZGV,←ZHG,FD,ZGA (by omega),ZGE (by omega)];simpa[ZGG]using h3,λj hj hj2=>by have hj:xs.length+1≤j:=hj;rw[←ZHG,FD,ZGA (by omega),ZGA (by omega),ZHG];exact G8 j hj hj2⟩⟩ λ_=>.inl ⟨EU,rfl⟩;exact⟨⟨_,by rw[ER];simp only[Instr.storeAt,Instr.sureAddr,ZG7,ZHe,ZGm,ZIM,ZHw];exact hrun,BW.1,BW.2⟩,rfl⟩
        ·cases h
       ·cases h
      ·cases h
     ·cases h
    ·cases h
theorem ZAD(hτ:BQ P τ){s:TypeId}{v:V}{f:Nat}{out:Av}(h:Wu τ os s v f=some out)(g:AE P E objs){c:Value}(r:AC P E v c):Bl P (Instr.fieldAt s c f) E objs out:=by
 unfold Wu at h;split at h
 ·rename_i offs size bytes zero code hs;have ht:=(hτ s _ hs).kind;obtain⟨fs,h1,h2,h3⟩:=ht;split at h
  ·rename_i o sz ho';have PN:=h3 (o,sz) (ZHf ho');have YJ:∃fl,fs[f]?=some fl∧fl.offset=o∧P.cellsOf fl.type=sz:=by rw[←h2]at ho';simp only[ZHO,ZGo,ZIN]at ho';obtain⟨fl,h4,h5,h6⟩:=ho';exact⟨fl,by simpa using h4,h5,h6⟩
   obtain⟨fl,hf,RC,hcs⟩:=YJ;obtain⟨fi,Ci,hfz⟩:∃i,P.info? fl.type=some i∧i.size≠0:=by cases hq:P.info? fl.type with|none=>simp[Program.cellsOf,hq]at hcs;exact absurd hcs.symm PN|some i=>simp[Program.cellsOf,hq]at hcs;exact⟨i,rfl,λe=>PN (by simpa[←hcs]using e)⟩
   have hrun:∀b off,(Instr.fieldAt s (.pointer (some ⟨b,off,none⟩)) f).run P E.w=.ok (.pointer (some ⟨b,off+o,none⟩)) E.w:=by intro b off;simp[Instr.fieldAt,ZGX h1,hf,Instr.sureAddr,fieldPlace,I8 Ci,hfz,ZHd,RC]
   split at h;·cases h;obtain⟨L,hL,rfl⟩:=Po r;exact .same g (hrun _ _) (.ref hL)
   ·cases h;cases r with|er fc h4 h5 h6=>
    rename_i cs b off;refine .same g (hrun _ _) ?_;rw[NG];refine .er (λj=>fc (o+j)) h4 (λj hj=>?_) λj hj=>?_;·simp only[ZG1]at hj;rw[ZKp];exact h5 _ (by omega)
    ·simp only[ZG1]at hj;have :=h6 (o+j) (by omega);simpa[ZGG]using this
   ·cases h;obtain⟨L,hL,rfl⟩:=Ps r;refine .same g (hrun _ _) ?_;rw[ZKp];exact .rref hL
   ·cases h
  ·cases h
 ·cases h
theorem Mr{T:Ty}{l:List T.den}{c:Value}(r:AC P E (.d (.sl T) l) c):BZ E.w E.S (.sl T) l [c]:=by cases r with|d h=>exact h
theorem xU{T:Ty}{x:T.den}{b off:Nat}{cs:List Value}(hb:E.S b)(h:BZ E.w E.S T x cs)(hc:∀j u,cs[j]?=some u→E.w.cell? ⟨b,off+j,none⟩=some u):AC P E (.er (flat T x)) (.pointer (some ⟨b,off,none⟩)):=by
 have r:=MC (P:=P) h;refine .er (λj=>cs.getD j undef) hb (λj hj=>?_) λj hj=>r.2 j hj;have hj':j<cs.length:=by rw[r.1];exact hj
 exact hc j _ (by simp[ZGG,ZGU hj'])
theorem RV{t e:TypeId}{ei:TI}(ht:P.underlying t=some (.slice e))(hei:ei.Ok P e){b off n cap:Nat}{k:IntKind}{i:Int}(w:World)(h0:0≤i)(h1:i<(n:Int)):(Instr.indexAt t (.slice (some ⟨b,off,none⟩) n cap) (.int k i)).run P w=.ok (.pointer (some ⟨b,off+i.toNat*ei.size,none⟩)) w:=by obtain⟨info,z,hi,hs,_⟩:=hei.info;simp[Instr.indexAt,asIntOf,ZGX ht,h0,h1,I8 hi,hs,ZHd]
theorem U9{L:Ai}{T:Ty}{xs:List T.den}(h:Ay P E L (.row T xs)){lo n:Nat}(h1:lo+n≤xs.length)(h2:0<n){c:Value}(hp:L.Part lo n c):c=.slice (some ⟨L.b,lo*T.size,none⟩) n (L.cap-lo):=by
 obtain⟨a,rfl,ha⟩:=hp;obtain⟨ER,AU,hlen,e',cs,h9,Bx⟩:=h;rcases Bx with⟨_,rfl⟩|⟨cur,Bk,CA,KH,_⟩;·simp at h1;omega
 ·have :L.cap≠lo:=by omega
  rw[ha this];simp[Bk,ER,ZHd]
theorem ZAE(hτ:BQ P τ){t:TypeId}{x ix:V}{out:Av}(h:Wv τ os t x ix=some out)(hs:DL os objs)(ho:BM out.ob)(g:AE P E objs){c d:Value}(rx:AC P E x c)(ri:AC P E ix d):Bl P (Instr.indexAt t c d) E objs out:=by
 unfold Wv at h;split at h
 ·rename_i e size bytes zero code BX;have ht:P.underlying t=some (.slice e):=(hτ t _ BX).kind;split at h
  ·rename_i k i0;obtain⟨i,hi0⟩:∃i:Int,i=i0:=⟨i0,rfl⟩;subst hi0;have hd:=ri.int_inv;subst hd;split at h
   ·rename_i ei hei;have hei:=hτ e ei hei;split at h
    ·rename_i T l;split at h
     ·rename_i Am;have Am:=ZGJ Am;cases h;obtain⟨h0,h1⟩:0≤i∧i<(List.length (α:=T.den) l:Int):=ho;obtain⟨a,cap,hc,FU,hl⟩:=Mr rx;have hc':c=.slice a (List.length (α:=T.den) l) cap:=by simpa using hc
      subst hc';have Ab:i.toNat<List.length (α:=T.den) l:=by omega
      obtain⟨b,off,rfl,hS,hx⟩:=hl λe=>by rw[e]at Ab;simp at Ab
      obtain⟨cs,h2,h3⟩:=hx i.toNat (List.getD (α:=T.den) l i.toNat T.dflt) (by rw[ZGG,ZGU Ab];rfl);refine .same g (RV ht hei E.w h0 h1) ?_;rw[←Am];exact xU hS h2 h3
     ·cases h
    ·rename_i l;split at h
     ·rename_i T xs hcs;split at h
      ·rename_i Am;have Am:=ZGJ Am;cases h;obtain⟨h0,h1⟩:0≤i∧i<(xs.length:Int):=ho;obtain⟨L,hL,_,hat⟩:=g.get hs hcs;obtain⟨K,hK,rfl⟩:=GQ rx;rw[hL]at hK;cases hK;obtain⟨ER,AU,hlen,e',cs,h9,Bx⟩:=id hat;rcases Bx with⟨_,rfl⟩|⟨cur,Bk,CA,_⟩;·simp at h1;omega
       ·unfold Ai.v;rw[Bk,hlen];refine .same g (RV ht hei E.w h0 h1) ?_;rw[ZGu,←Am,←ER];exact .rref hL
      ·cases h
     ·rename_i T xs s m hcs;split at h
      ·rename_i Am;have Am:=ZGJ Am;split at h;·cases h
       ·rename_i v vs;cases h;obtain⟨h0,h1⟩:0≤i∧i<((xs.length+1+m:Nat):Int):=ho;obtain⟨L,hL,_,hat⟩:=g.get hs hcs;obtain⟨K,hK,rfl⟩:=GQ rx;rw[hL]at hK;cases hK;obtain⟨ER,DD,hlen,e',cs,h9,Bx⟩:=id hat;have hlen:L.len=xs.length+1+m:=by rw[hlen];simp only[ZGL]at DD⊢;omega
        rcases Bx with⟨_,Bx⟩|⟨cur,Bk,CA,_⟩;·omega
        ·unfold Ai.v;rw[Bk,hlen];refine .same g (RV ht hei E.w h0 h1) ?_;rw[ZGu,Am,←ER];exact .rref hL
      ·cases h
     ·cases h
    ·rename_i l lo m;split at h
     ·rename_i T xs hcs;split at h;·rename_i Am;have Am:=ZGJ Am;cases h;obtain⟨h0,h1,h2⟩:0≤i∧i<(m:Int)∧lo+m≤xs.length:=ho;obtain⟨L,hL,_,hat⟩:=g.get hs hcs;obtain⟨K,hK,hp⟩:=KJ rx;rw[hL]at hK;cases hK;rw[U9 hat h2 (by omega) hp];refine .same g (RV ht hei E.w h0 h1) ?_;rw[←Am,←ZIP,←hat.1];exact .rref hL
      ·cases h
     ·cases h
    ·rename_i l m;split at h
     ·rename_i j;split at h;·rename_i hb;simp only[ZGW]at hb;cases h;obtain⟨L,hL,rfl⟩:=eG rx;have Ab:j<m:=ZIB (ZIq j) (ZGk hb.1);refine .same g (RV ht hei E.w (Int.natCast_nonneg j) (by simpa using Int.ofNat_lt.2 Ab)) ?_;rw[ZGJ hb.2];simpa using AC.ref hL
      ·cases h
     ·cases h
    ·split at h;·cases h;exact ho.elim
     ·cases h
    ·cases h
   ·cases h
  ·cases h
 ·rename_i m e size bytes zero code BX;have ht:P.underlying t=some (.array m e):=(hτ t _ BX).kind.1;split at h
  ·rename_i k i0;obtain⟨i,hi0⟩:∃i:Int,i=i0:=⟨i0,rfl⟩;subst hi0;have hd:=ri.int_inv;subst hd;split at h
   ·rename_i ei hei;have hei:=hτ e ei hei;split at h
    ·rename_i l;split at h
     ·rename_i T xs hcs;split at h
      ·rename_i Am;have Am:=ZGJ Am;cases h;obtain⟨h0,h1⟩:0≤i∧i<(m:Int):=ho;obtain⟨L,hL,_,hat⟩:=g.get hs hcs;obtain⟨K,hK,rfl⟩:=Ps rx;rw[hL]at hK;cases hK;obtain⟨info,z,hi,hs',_⟩:=hei.info;refine .same (v:=.pointer (some ⟨L.b,i.toNat*T.size,none⟩)) g ?_ ?_;·simp[Instr.indexAt,asIntOf,ZGX ht,h0,h1,I8 hi,hs',ZHd,Instr.sureAddr,Am]
       ·rw[←hat.1];exact .rref hL
      ·cases h
     ·cases h
    ·cases h
   ·cases h
  ·cases h
 ·cases h
end
section
variable {P : Program} {τ : Ap} {E : AF} {os objs : AH} {n : Nat}
theorem QY{k:IntKind}{n:Int}(h:AA k n):k.wrap n=n:=by
 cases k;·exact IntWalk.i8_in n h
 ·exact IntWalk.i16_in n h
 ·exact IntWalk.i32_in n h
 ·exact IntWalk.i64_in n h
 ·exact IntWalk.u8_in n h
 ·exact IntWalk.u16_in n h
 ·exact IntWalk.u32_in n h
 ·exact IntWalk.u64_in n h
theorem Sd{k:IntKind}{n:Int}(h:BM (wr k n).ob):∃c,c=Value.int k (k.wrap n)∧∀E,AC P E (wr k n).v c:=by
 refine⟨_,rfl,λE=>?_⟩;unfold wr at h⊢;split;·rename_i hs;simp only[hs]at h;rw[QY h];exact .mk_int _ _
 ·exact .mk_int _ _
theorem ZFE{k:IntKind}{p:Prop}{n:Int}(h:BM (P4 k p n).ob):p∧∃c,c=Value.int k (k.wrap n)∧∀E,AC P E (P4 k p n).v c:=by
 unfold P4 at h⊢;split;·rename_i hs;simp only[hs]at h;exact⟨h.1,_,rfl,λE=>by rw[QY h.2];exact .mk_int _ _⟩
 ·rename_i hs;simp only[hs]at h;exact⟨h,_,rfl,λE=>.mk_int _ _⟩
theorem ZFC{wm:Bool}{k:IntKind}{n:Int}(h:BM (Sc wm k n).ob):∃c,c=Value.int k (k.wrap n)∧∀E,AC P E (Sc wm k n).v c:=by cases wm with|true=>exact⟨_,rfl,λE=>.mk_int _ _⟩|false=>exact Sd h
theorem ZFB(wm:Bool)(k:IntKind)(n:Int):(Sc wm k n).ed=none:=by cases wm<;>(simp only[Sc];try unfold wr;try split)<;>rfl
theorem Vo(k:IntKind)(n:Int):(wr k n).ed=none:=by unfold wr;split<;>rfl
theorem ZFD(k:IntKind)(p:Prop)(n:Int):(P4 k p n).ed=none:=by unfold P4;split<;>rfl
theorem Bl.same'{s:Sem Value}{v:Value}{out:Av}(g:AE P E objs)(he:out.ed=none)(h:s.run P E.w=.ok v E.w)(r:AC P E out.v v):Bl P s E objs out:=by obtain⟨ob,a,ed⟩:=out;cases he;exact .same g h r
theorem ZAF{wm:Bool}{op:BinOp}{k:IntKind}{a b:Int}{r:Av}(h:Ww wm op k a b=some r)(ho:BM r.ob)(xt:TypeId)(w:World)(hs:op≠.shl∧op≠.shr):r.ed=none∧∃c,(binOp op xt (.int k a) (.int k b)).run P w=.ok c w∧∀E,AC P E r.v c:=by
 cases op<;>simp only[Ww,ZHl,reduceCtorEq]at h<;>try subst h
 case add=>obtain⟨c,rfl,hc⟩:=ZFC (P:=P) ho;exact⟨ZFB _ _ _,_,by simp[binOp,Op.intArith],hc⟩
 case sub=>obtain⟨c,rfl,hc⟩:=Sd (P:=P) ho;exact⟨Vo _ _,_,by simp[binOp,Op.intArith],hc⟩
 case mul=>obtain⟨c,rfl,hc⟩:=Sd (P:=P) ho;exact⟨Vo _ _,_,by simp[binOp,Op.intArith],hc⟩
 case quo=>obtain⟨hb,c,rfl,hc⟩:=ZFE (P:=P) ho;exact⟨ZFD _ _ _,_,by simp[binOp,Op.intDiv,hb],hc⟩
 case rem=>exact⟨rfl,_,by simp[binOp,Op.intDiv,show b≠0 from ho],λE=>.mk_int _ _⟩
 case eql=>exact⟨rfl,_,by simp[binOp,Op.intCmp],λE=>.mk_bool _⟩
 case neq=>exact⟨rfl,_,by simp[binOp,Op.intCmp],λE=>.mk_bool _⟩
 case lss=>exact⟨rfl,_,by simp[binOp,Op.intCmp],λE=>.mk_bool _⟩
 case leq=>exact⟨rfl,_,by simp[binOp,Op.intCmp],λE=>.mk_bool _⟩
 case gtr=>exact⟨rfl,.bool (decide (b<a)),by simp[binOp,Op.intCmp],λE=>.mk_bool _⟩
 case geq=>exact⟨rfl,.bool (decide (b≤a)),by simp[binOp,Op.intCmp],λE=>.mk_bool _⟩
 case and=>exact⟨rfl,_,by simp[binOp,Op.intBits],λE=>.mk_int _ _⟩
 case or=>exact⟨rfl,_,by simp[binOp,Op.intBits],λE=>.mk_int _ _⟩
theorem On(op:BinOp)(t:TypeId)(x y:Operand){a b:Value}(ha:a.oneCell'=true)(hn:a≠.nilIface)(w:World):(eqGuard op t x y a b).run P w=.ok () w:=by unfold eqGuard;cases op<;>(first|(simp;done)|(cases a<;>first|(simp[Value.oneCell']at ha;done)|(exact absurd rfl hn)|(simp;done)))
theorem XC(op:BinOp)(t:TypeId)(x y:Operand)(k:IntKind)(a:Int)(b:Value)(w:World):(eqGuard op t x y (.int k a) b).run P w=.ok () w:=On op t x y rfl (by simp) w
theorem XI{t:TypeId}{x y:Value}{w:World}{r:Result Bool}(h:∀d,(Op.equalIn (d+1) t x y).run P w=r):(Op.equal t x y).run P w=r:=h 9999
theorem iO{t:TypeId}(h:P.underlying t=some .bool)(a b:Bool)(w:World):(Op.equal t (.bool a) (.bool b)).run P w=.ok (a==b) w:=XI λd=>by simp only[Op.equalIn,ZG7,ZGX h,ZGm,ZHe]
theorem ZAa{t e:TypeId}(h:P.underlying t=some (.pointer e))(q:Option Addr)(w:World):(Op.equal t (.pointer q) (.pointer none)).run P w=.ok q.isNone w:=XI λd=>by cases q<;>simp only[Op.equalIn,ZG7,ZGX h,ZGm,ZHe,Option.isNone]
theorem WM{t:TypeId}{x y:Value}{b:Bool}{w:World}(h:(Op.equal t x y).run P w=.ok b w)(hs:(∃a c,x=.bool a∧y=.bool c)∨∃a c,x=.pointer a∧y=.pointer c):(binOp .eql t x y).run P w=.ok (.bool b) w∧(binOp .neq t x y).run P w=.ok (.bool !b) w:=by rcases hs with⟨a,c,rfl,rfl⟩|⟨a,c,rfl,rfl⟩<;>simp only[binOp,ZG7,h,ZGm,ZHe,and_self]
theorem zW(hτ:BQ P τ){op:BinOp}{xt:TypeId}{ox oy:Operand}{x y:V}{out:Av}(h:Wl τ op xt x y=some out)(ho:BM out.ob)(g:AE P E objs){c d:Value}(rx:AC P E x c)(ry:AC P E y d):Bl P (do eqGuard op xt ox oy c d;binOp op xt c d) E objs out:=by
 unfold Wl at h;split at h
 ·rename_i k a0;obtain⟨a,IF⟩:∃a:Int,a=a0:=⟨a0,rfl⟩;subst IF;have hc:=rx.int_inv;subst hc;split at h
  ·rename_i k' b0;obtain⟨b,Du⟩:∃b:Int,b=b0:=⟨b0,rfl⟩;subst Du;have hd:=ry.int_inv;subst hd;split at h;·cases h;have ho:0≤b:=ho;exact .same g (v:=.int k (k.wrap (a*2^min b.toNat k.bits))) (by have hb:¬(b:Int)<0:=Int.not_lt.mpr ho;simp[XC,binOp,Op.shift,hb]) (.mk_int _ _)
   ·cases h;have ho:0≤b:=ho;exact .same g (v:=.int k (a.fdiv (2^min b.toNat k.bits))) (by have hb:¬(b:Int)<0:=Int.not_lt.mpr ho;simp[XC,binOp,Op.shift,hb]) (.mk_int _ _)
   ·rename_i n1 n2;split at h;·rename_i hk;have hk:=UZ hk;subst hk;obtain⟨h1,c,h2,h3⟩:=ZAF (P:=P) h ho xt E.w ⟨λe=>by subst e;exact(n1 rfl).elim,λe=>by subst e;exact(n2 rfl).elim⟩;exact .same' g h1 (by simp only[ZG7,XC,ZGm];exact h2) (h3 E)
    ·cases h
  ·cases h
 ·rename_i a0;obtain⟨a,IF⟩:∃a:Bool,a=a0:=⟨a0,rfl⟩;subst IF;have hc:=rx.bool_inv;subst hc;split at h
  ·rename_i b0;obtain⟨b,Du⟩:∃b:Bool,b=b0:=⟨b0,rfl⟩;subst Du;have hd:=ry.bool_inv;subst hd;split at h
   ·rename_i sz by_ ze co hs;have ht:P.underlying xt=some .bool:=(hτ xt _ hs).kind;split at h;·cases h;exact .same g (v:=.bool (a==b)) (by simp only[ZG7,On _ _ _ _ (show(Value.bool a).oneCell'=true from rfl) (by simp),ZGm];exact(WM (iO ht a b E.w) (.inl ⟨a,b,rfl,rfl⟩)).1) (.mk_bool _)
    ·cases h;exact .same g (v:=.bool (a !=b)) (by simp only[ZG7,On _ _ _ _ (show(Value.bool a).oneCell'=true from rfl) (by simp),ZGm];exact(WM (iO ht a b E.w) (.inl ⟨a,b,rfl,rfl⟩)).2) (.mk_bool _)
    ·cases h
   ·cases h
  ·cases h
 ·split at h
  ·cases ry;split at h
   ·rename_i sz by_ ze co hs;obtain⟨e,ht⟩:∃e,P.underlying xt=some (.pointer e):=(hτ xt _ hs).kind;have key:∀(b:Bool)(q:Option Addr),c=.pointer q→q.isNone=b→QT op b=some out→Bl P (do eqGuard op xt ox oy c (.pointer none);binOp op xt c (.pointer none)) E objs out:=by
     intro b q hq hb h;subst hq;subst hb;have heq:=WM (ZAa ht q E.w) (.inr ⟨_,_,rfl,rfl⟩);unfold QT at h;split at h;·cases h;exact .same g (by simp only[ZG7,On _ _ _ _ (show(Value.pointer q).oneCell'=true from rfl) (by simp),ZGm];exact heq.1) (.mk_bool _)
     ·cases h;exact .same g (by simp only[ZG7,On _ _ _ _ (show(Value.pointer q).oneCell'=true from rfl) (by simp),ZGm];exact heq.2) (.mk_bool _)
     ·cases h
    split at h;·cases rx;exact key true none rfl rfl h
    ·obtain⟨b,off,vals,rfl,_⟩:=QX rx;exact key false _ rfl rfl h
    ·cases rx with|opt h1 h2=>rename_i b _ _ _;cases b with|true=>obtain⟨b,off,vals,rfl,_⟩:=QX (h1 rfl);exact key false _ rfl rfl h|false=>exact key true none (h2 rfl) rfl h
    ·cases h
   ·cases h
  ·cases h
theorem ZAP{op:UnOp}{x:V}{out:Av}(h:W8 op x=some out)(ho:BM out.ob)(g:AE P E objs){c:Value}(rx:AC P E x c):Bl P (Op.unary op c) E objs out:=by
 unfold W8 at h;split at h
 ·split at h;·rename_i k n;cases h;have hc:=rx.int_inv;subst hc;obtain⟨c,rfl,hc⟩:=Sd (P:=P) ho;exact .same' g (Vo _ _) (by simp[Op.unary,Op.intArith]) (hc E)
  ·cases h
 ·split at h;·cases h;have hc:=rx.bool_inv;subst hc;exact .same g (by simp[Op.unary]) (.mk_bool _)
  ·cases h
 ·cases h
theorem hU{mx:Bool}{x y:V}{out:Av}(h:TP mx x y=some out)(g:AE P E objs){c d:Value}(rx:AC P E x c)(ry:AC P E y d)(ts:Array TypeId)(t:TypeId):Bl P (if mx then Builtin.max_ ts t #[c,d]else Builtin.min_ ts t #[c,d]) E objs out:=by
 unfold TP at h;split at h
 ·rename_i k a0;obtain⟨a,IF⟩:∃a:Int,a=a0:=⟨a0,rfl⟩;subst IF;have hc:=rx.int_inv;subst hc;split at h
  ·rename_i k' b0;obtain⟨b,Du⟩:∃b:Int,b=b0:=⟨b0,rfl⟩;subst Du;have hd:=ry.int_inv;subst hd;split at h
   ·rename_i hk;have hk:=UZ hk;subst hk;have e1:(max a b:Int)=if b>a then b else a:=by omega
    have e2:(min a b:Int)=if b<a then b else a:=by omega
    split at h;·cases h;exact .same g (v:=.int k (max a b)) (by rw[e1];simp[Builtin.max_,Builtin.max2]) (.mk_int _ _)
    ·cases h;exact .same g (v:=.int k (min a b)) (by rw[e2];simp[Builtin.min_,Builtin.min2]) (.mk_int _ _)
   ·cases h
  ·cases h
 ·cases h
theorem Sz{v:V}{p:Option Prop}{b:Bool}{c:Value}(h:Sy v=some (p,b))(hp:BM p)(r:AC P E v c):c=.bool b:=by
 unfold Sy at h;split at h;·cases h;exact r.bool_inv
 ·cases h;cases r with|when h1 h2=>exact(h1 hp).bool_inv
 ·cases h
theorem Z6{c:Bool}{p q:Option Prop}(h:BM (VC c p q)):(c=true→BM p)∧(c=false→BM q):=by
 cases p<;>cases q;·exact⟨λ_=>trivial,λ_=>trivial⟩
 ·exact⟨λ_=>trivial,h⟩
 ·exact⟨h,λ_=>trivial⟩
 ·exact h
theorem ZAM{oa ob:Operand}{c x y:V}{out:Av}(h:W5 oa ob c x y=some out)(ho:BM out.ob)(g:AE P E objs){c' x' y':Value}(rc:AC P E c c')(rx:AC P E x x')(ry:AC P E y y')(hx:∀b,oa=.const (.bool b)→x'=.bool b)(hy:∀b,ob=.const (.bool b)→y'=.bool b):Bl P (do pure (if←Go.asBool c' then x' else y')) E objs out:=by
 unfold W5 at h;split at h
 ·rename_i c0;obtain⟨c,Be⟩:∃c:Bool,c=c0:=⟨c0,rfl⟩;subst Be;have hc:=rc.bool_inv;subst hc;split at h
  ·rename_i gx x h2;split at h
   ·rename_i gy y h3;split at h;·cases h;have e:=hx true rfl;subst e;cases c with|true=>exact .same g (v:=.bool true) (by simp[Go.asBool]) (.mk_bool _)|false=>have e:=Sz h3 ((Z6 ho).2 rfl) ry;subst e;exact .same g (v:=.bool y) (by simp[Go.asBool]) (by simpa using .mk_bool _)
    ·split at h;·cases h;have e:=hy false rfl;subst e;cases c with|false=>exact .same g (v:=.bool false) (by simp[Go.asBool]) (.mk_bool _)|true=>have e:=Sz h2 ((Z6 ho).1 rfl) rx;subst e;exact .same g (v:=.bool x) (by simp[Go.asBool]) (by simpa using .mk_bool _)
     ·cases h;obtain⟨h4,h5⟩:=Z6 ho;cases c with|true=>have e:=Sz h2 (h4 rfl) rx;subst e;exact .same g (v:=.bool x) (by simp[Go.asBool]) (by simpa using .mk_bool _)|false=>have e:=Sz h3 (h5 rfl) ry;subst e;exact .same g (v:=.bool y) (by simp[Go.asBool]) (by simpa using .mk_bool _)
   ·cases h
  ·cases h
 ·cases h
end
section
variable {P : Program} {τ : Ap} {E : AF} {os objs : AH} {n : Nat}
theorem Rv(g:AE P E objs)(hf:E.loc n=none){cs:List V}{vals:Array Value}{t:TypeId}(r:AZ P E cs vals.toList):∃E',E'.w=E.w.alloc (.cells vals t)∧AE P E' ((n,.box cs)::objs)∧BL E objs E' ((n,.box cs)::objs) []∧E'.loc n=some {b:=E.w.heap.size}:=by have hw:=ZHV E.w (.cells vals t) none;let L:Ai:={b:=E.w.heap.size};have hx:=Rw g L hf hw;have hr:=r.mono hx;have h:=AE.push g (L:=L) (o:=.box cs) hf hw ⟨vals,t,ZIG _ _,by simpa using hr.1,λj hj=>by simpa[ZGV,ZGG]using hr.2 j hj⟩ λ_=>ZGR _;exact⟨_,rfl,h.1,h.2,CJ _ _ _ _⟩
theorem Rx(g:AE P E objs)(hf:E.loc n=none){T:Ty}{xs:List T.den}{w:World}{cur:Array Value}{e:TypeId}{cap:Nat}(hw:E.w.grownBy w none)(hb:w.heap[E.w.heap.size]?=some (.cells cur e (0,0)))(AU:0<T.size)(FU:xs.length≤cap)(J8:cap≤maxLen)(Am:cur.size=cap*T.size){cs:List Value}(hc:A8 E.w E.S T xs cs)(ht:cur.toList.take (xs.length*T.size)=cs):∃E',E'.w=w∧AE P E' ((n,.row T xs)::objs)∧BL E objs E' ((n,.row T xs)::objs) []∧E'.loc n=some ⟨E.w.heap.size,some ⟨E.w.heap.size,0,none⟩,xs.length,cap,T.size⟩:=by
 let L:Ai:=⟨E.w.heap.size,some ⟨E.w.heap.size,0,none⟩,xs.length,cap,T.size⟩;have hx:=Rw g L hf hw;have h:=AE.push g (L:=L) (o:=.row T xs) hf hw ⟨rfl,AU,rfl,e,cs,hc.mono hx.S,by
  by_cases hz:cap=0;·subst hz;exact .inl ⟨rfl,ZGY (by omega)⟩
  ·exact .inr ⟨cur,rfl,hb,FU,ZJ0 hz,J8,Am,ht⟩⟩ λ_=>ZGR _;exact⟨_,rfl,h.1,h.2,CJ _ _ _ _⟩
theorem ZDL(g:AE P E objs)(hf:E.loc n=none){T:Ty}{m:Nat}{w:World}{cur:Array Value}{e:TypeId}{cap:Nat}(hw:E.w.grownBy w none)(hb:w.heap[E.w.heap.size]?=some (.cells cur e (0,0)))(FU:m≤cap)(J8:cap≤maxLen)(Am:cur.size=cap)(hz:∀i,i<m→cur[i]?=some (.slice none 0 0)):∃E',E'.w=w∧AE P E' ((n,.vrow T [] [] m)::objs)∧BL E objs E' ((n,.vrow T [] [] m)::objs) []∧E'.loc n=some ⟨E.w.heap.size,some ⟨E.w.heap.size,0,none⟩,m,cap,1⟩:=by
 let L:Ai:=⟨E.w.heap.size,some ⟨E.w.heap.size,0,none⟩,m,cap,1⟩;have h:=AE.push g (L:=L) (o:=.vrow T [] [] m) hf hw ⟨rfl,ZHu _,by simp[L],e,[],rfl,by
  by_cases h0:cap=0;·subst h0;exact .inl ⟨rfl,Nat.eq_zero_of_le_zero FU⟩
  ·exact .inr ⟨cur,rfl,hb,FU,ZJ0 h0,J8,Am,by simp,λj hj=>by simp at hj,λi _ hi=>hz i hi⟩⟩ λ_=>ZGR _;exact⟨_,rfl,h.1,h.2,CJ _ _ _ _⟩
theorem Pp{w:World}{S:Nat→Prop}{T:Ty}{zs:List Value}(h:BZ w S T T.dflt zs):∀n:Nat,A8 w S T (List.replicate n T.dflt) (List.replicate n zs).flatten|0=>rfl|n+1=>⟨zs,_,by simp[ZIv],h,Pp h n⟩
theorem zT(hτ:BQ P τ){t:TypeId}{out:Av}(h:Wj τ n t=some out)(g:AE P E objs)(hf:E.loc n=none):Bl P (Instr.alloc t true (.tuple #[])) E objs out:=by
 unfold Wj at h;split at h
 ·rename_i m e size bytes zero code BX;obtain⟨info,z,hi,hs,hb,hz,DO,Da⟩:=(hτ t _ BX).info;obtain⟨ht,ie,ze,ML,RU,hzz,Am,hn0,hn1,YE⟩:=(hτ t _ BX).kind;split at h
  ·rename_i k sz by_ zero' T he;cases h;have hei:=hτ e _ he;obtain⟨hTs,AU,JR⟩:=hei.code T rfl;obtain⟨info2,z2,hi2,En,hb2,HP,ZB2,ZF6⟩:=hei.info;rw[ML]at hi2;cases hi2;rw[RU]at HP;cases HP;have AU:0<T.size:=by rw[hTs];exact AU
   have hcl:A8 E.w E.S T (List.replicate m T.dflt) z.cells.toList:=by rw[DO,show zero=_ from hzz,ZB2];exact Pp (JR _ _) m
   have hlen:=hcl.length;rw[ZGj]at hlen;obtain⟨E',hw,h1,h2,h3⟩:=Rx (cap:=m) g hf (ZHV E.w (.cells z.cells t) none) (ZIG _ _) AU (by simp) (by unfold maxLen;omega) (by simpa using hlen) hcl (ZHt (by rw[ZGj,hlen];exact ZGR _));refine⟨E',_,by rw[hw];simp[Instr.alloc,M1 hi hz,newVar,newRow];rfl,h1,h2,?_⟩;simpa using AC.rref (i:=0) (off:=0) h3
  ·cases h;obtain⟨E',hw,h1,h2,h3⟩:=Rv g hf (t:=t) (cs:=M0 zero) (vals:=z.cells) (by rw[DO];exact Vq _);exact⟨E',_,by rw[hw];simp[Instr.alloc,M1 hi hz,newVar,newRow],h1,h2,.ref h3⟩
  ·cases h
 ·rename_i zero _ hn BX;cases h;obtain⟨info,z,hi,hs,hb,hz,DO,Da⟩:=(hτ t _ BX).info;obtain⟨E',hw,h1,h2,h3⟩:=Rv g hf (t:=t) (cs:=M0 zero) (vals:=z.cells) (by rw[DO];exact Vq _);exact⟨E',_,by rw[hw];simp[Instr.alloc,M1 hi hz,newVar,newRow],h1,h2,.ref h3⟩
 ·cases h
theorem zX{t:TypeId}{x:V}{out:Av}(h:Wm n x=some out)(g:AE P E objs)(hf:E.loc n=none){c:Value}(r:AC P E x c):Bl P (Instr.box t c) E objs out:=by
 unfold Wm at h;split at h;·rename_i cs h1;cases h;obtain⟨E',hw,h2,h3,h4⟩:=Rv g hf (t:=t) (VK h1 r).1;exact⟨E',_,by rw[hw];simp[Instr.box,newVar,newRow],h2,h3,.ref h4⟩
 ·cases h
theorem jE(off:Nat):∀(vs:List Value)(k:Nat)(cells:Array Value),off+k+vs.length≤cells.size→(vs.zipIdx k).foldl (λcs(p:Value×Nat)=>cs.setIfInBounds (off+p.2) p.1) cells=(cells.toList.take (off+k)++vs++cells.toList.drop (off+k+vs.length)).toArray
 |[],k,cells,h=>by simp|v::vs,k,cells,h=>by
  simp only[List.zipIdx_cons,ZG3,ZGL]at h⊢;rw[jE off vs (k+1) _ (by simp;omega)];apply ZJd;simp only[Array.toList_setIfInBounds];apply ZHX;intro j;have e1:off+(k+1)=off+k+1:=by omega
  rw[e1];have s1:=I9 (A:=cells.toList.set (off+k) v) (vs:=vs) (o:=off+k+1) (by simp;omega) j;have s2:=I9 (A:=cells.toList) (vs:=v::vs) (o:=off+k) (by simp;omega) j;have e2:off+k+(vs.length+1)=off+k+1+vs.length:=by omega
  simp only[ZGL,e2]at s2⊢;rw[s1,s2];by_cases c1:j<off+k;·rw[ZGE (by omega),ZGE c1,ZIS (by omega)]
  ·by_cases c2:j=off+k;·subst c2;rw[ZGE (by omega),ZGA c1,ZGE (by omega)];rw[List.getElem?_set_self (by simp;omega)];simp
   ·rw[ZGA (by omega),ZGA c1];by_cases c3:j<off+k+1+vs.length
    ·rw[ZGE c3,ZGE (by omega)];have :j-(off+k)=j-(off+k+1)+1:=by omega
     rw[this];simp
    ·rw[ZGA c3,ZGA (by omega),ZIS (by omega)]
theorem XL{place:Nat→Option (Nat×Nat)}{cells:Array Value}{i off size:Nat}{v:Value}{rest:List (Nat×Value)}(hp:place i=some (off,size))(hs:v.cells.toList.length=size)(hf:off+size≤cells.size):Instr.fill place cells ((i,v)::rest)=Instr.fill place (cells.toList.take off++v.cells.toList++cells.toList.drop (off+v.cells.toList.length)).toArray rest:=by
 have Am:v.cells.size=size:=by simpa using hs
 have h1:¬(v.cells.size≠size∨off+v.cells.size>cells.size):=by omega
 have YJ:=jE off v.cells.toList 0 cells (by simp;omega);simp only[Instr.fill,hp];rw[ZGA (by simpa using h1)];congr 1;rw[←ZKw,Array.toList_zipIdx];simpa using YJ
theorem XK{offs:List (Nat×Nat)}:∀{parts:List (Nat×V)}{vals:List (Nat×Value)}{cs cs':List V}{cells:Array Value},Ou offs cs parts=some cs'→AZ P E cs cells.toList→parts.map (·.1)=vals.map (·.1)→(∀(j:Nat)(p:Nat×V)(q:Nat×Value),parts[j]?=some p→vals[j]?=some q→AC P E p.2 q.2)→∃cells',Instr.fill (offs[·]?) cells vals=some cells'∧AZ P E cs' cells'.toList
 |[],vals,cs,cs',cells,h,r,hm,_=>by
  have :vals=[]:=by simpa using hm.symm
  subst this;simp only[Ou]at h;cases h;exact⟨cells,rfl,r⟩|(i,v)::parts,[],cs,cs',cells,h,r,hm,_=>by simp at hm|(i,v)::parts,(i',c)::vals,cs,cs',cells,h,r,hm,hr=>by
  simp only[ZGi,ZIh]at hm;obtain⟨rfl,hm⟩:=hm;simp only[Ou]at h;split at h
  ·rename_i o m ho;split at h
   ·rename_i new hn;split at h
    ·rename_i hlen;have hlen:=ZGJ hlen;split at h;·rename_i cs1 h1;have hc:=(VK hn (hr 0 _ _ rfl rfl)).1;obtain⟨h3,h4⟩:=r.put h1 hc;have hl:c.cells.toList.length=m:=hc.1.trans hlen;obtain⟨cells',h5,h6⟩:=XK (vals:=vals) (cells:=(cells.toList.take o++c.cells.toList++cells.toList.drop (o+c.cells.toList.length)).toArray) h (by simpa using h3) hm λj p q hp hq=>hr (j+1) p q (by simpa using hp) (by simpa using hq);exact⟨cells',by rw[XL (place:=(offs[·]?)) ho hl (by simp at h4 hl⊢;omega)];exact h5,h6⟩
     ·cases h
    ·cases h
   ·cases h
  ·cases h
theorem pI{α β:Type}{f:α→Sem β}{g:α→β}:∀{l:List α},(∀x∈l,∀w,(f x).run P w=.ok (g x) w)→∀w,(l.mapM f).run P w=.ok (l.map g) w|[],_,w=>by simp|x::l,h,w=>by have h1:=h x (by simp) w;have h2:=pI (l:=l) (λy hy=>h y (by simp[hy])) w;simp[h1,h2]
theorem iR{p q:Nat→Option (Nat×Nat)}:∀{parts:List (Nat×Value)}{cells cells':Array Value},(∀i r,p i=some r→q i=some r)→Instr.fill p cells parts=some cells'→Instr.fill q cells parts=some cells'|[],_,_,_,h=>h|(i,v)::rest,cells,cells',mJ,h=>by unfold Instr.fill at h⊢;cases hp:p i with|none=>rw[hp]at h;cases h|some r=>
 rw[hp]at h;rw[mJ i r hp];simp only at h⊢;split at h;·cases h
 ·rename_i hc;rw[ZGA hc];exact iR mJ h
theorem zZ(hτ:BQ P τ){t:TypeId}{parts:List (Nat×V)}{vals:Array (Nat×Value)}{out:Av}(h:Wn τ t parts=some out)(g:AE P E objs)(hm:parts.map (·.1)=vals.toList.map (·.1))(hr:∀(j:Nat)(p:Nat×V)(q:Nat×Value),parts[j]?=some p→vals.toList[j]?=some q→AC P E p.2 q.2):Bl P (Instr.build t vals) E objs out:=by
 unfold Wn at h;split at h
 ·rename_i offs sz by_ zero co BX;split at h
  ·rename_i cs h1;cases h;have hok:=hτ t _ BX;obtain⟨fs,h2,h3,h4⟩:=hok.kind;obtain⟨info,z,hi,hs,hb,hz,DO,Da⟩:=hok.info;obtain⟨cells',h5,h6⟩:=XK (vals:=vals.toList) (cells:=z.cells) h1 (by rw[DO];exact Vq _) hm hr;have ZBk:∀w,(fs.mapM λf=>Prod.mk f.offset<$>sizeOf f.type:Sem (Array (Nat×Nat))).run P w=.ok offs.toArray w:=by
    intro w;rw[ZJM];simp only[Sem.run_map];rw[pI (g:=λf=>(f.offset,P.cellsOf f.type))];·simp[h3]
    ·intro f hf w;have PN:=h4 (f.offset,P.cellsOf f.type) (by rw[←h3];exact List.mem_map.2 ⟨f,hf,rfl⟩);cases hq:P.info? f.type with|none=>simp[Program.cellsOf,hq]at PN|some i=>simp[I8 hq,Program.cellsOf,hq]
   refine .same g (v:=.agg cells') ?_ (.agg (by simpa using h6.1) λj hj=>by simpa[ZGV,ZGG]using h6.2 j hj);simp[Instr.build,M1 hi hz,ZGX h2,ZBk,h5]
  ·cases h
 ·rename_i m e size bytes zero code BX;obtain⟨info,z,hi,hs,hb,hz,DO,Da⟩:=(hτ t _ BX).info;have ht:=(hτ t _ BX).kind.1;split at h
  ·rename_i ei he;split at h;·rename_i cs h1;cases h;obtain⟨info2,z2,hi2,En,_⟩:=(hτ e _ he).info;obtain⟨cells',h5,h6⟩:=XK (vals:=vals.toList) (cells:=z.cells) h1 (by rw[DO];exact Vq _) hm hr;refine .same g (v:=.agg cells') ?_ (.agg (by simpa using h6.1) λj hj=>by simpa[ZGV,ZGG]using h6.2 j hj);have h7:=iR (q:=λi=>some (i*ei.size,ei.size)) λi r hr=>by simp only[ZHO,ZGo]at hr;obtain⟨k,hk,rfl⟩:=hr;have :=ZIY (ZG4▸(List.getElem?_eq_some_iff.1 hk).1);rw[hk]at this;cases this;rfl h5;simp[Instr.build,M1 hi hz,ZGX ht,I8 hi2,En,h7]
   ·cases h
  ·cases h
 ·cases h
theorem ZCB(hτ:BQ P τ){t e:TypeId}{m size bytes:Nat}{zero:List Value}{code:Option Ty}{ei:TI}{k:IntKind}{cs:List V}{i:Nat}{v:V}(BX:τ t=some ⟨.arr m e,size,bytes,zero,code⟩)(he:τ e=some ei)(h1:i<m)(h2:ei.size=1)(h3:ei.isAgg=false)(h4:ei.k.known=true)(hv:cs[i]?=some v)(w:World){c:Value}(rx:AC P E (.agg cs) c):∃u,AC P E v u∧(Instr.index t c (.int k i)).run P w=.ok u w:=by have ht:=(hτ t _ BX).kind.1;have hei:=hτ e _ he;obtain⟨info,z,hi,hs,_⟩:=hei.info;cases rx with|agg hl hcs=>
 rename_i a;have Ab:i<cs.length:=(List.getElem?_eq_some_iff.1 hv).1;have hr:=hcs i Ab;have e1:cs.getD i .any=v:=by rw[ZGG,hv];rfl
 rw[e1]at hr;refine⟨a.getD i undef,hr,?_⟩;obtain⟨d,hd1,EI⟩:=hei.desc h4;have Tn:=ZI (P:=P) hd1 w;rw[EI,h3]at Tn;have Nc:i<a.size:=by rw[hl];exact Ab
 have Am:info.size=1:=by rw[hs];exact h2
 have hi1:(i:Int)<(m:Int):=by omega
 have hrun:(Go.part e a i).run P w=.ok (a.getD i undef) w:=by simp[Go.part,Tn,Nc,ZGV]
 simp[Instr.index,asIntOf,ZGX ht,hi1,h1,I8 hi,Am,hrun]
theorem gY(hτ:BQ P τ){t:TypeId}{x ix:V}{out:Av}(h:QS τ t x ix=some out)(g:AE P E objs){c d:Value}(rx:AC P E x c)(ri:AC P E ix d):Bl P (Instr.index t c d) E objs out:=by
 unfold QS at h;split at h
 ·rename_i m e size bytes zero code BX;split at h
  ·rename_i cs;split at h
   ·rename_i k i;have hd:=ri.int_inv;subst hd;split at h
    ·rename_i ei he;split at h
     ·rename_i hc;simp only[ZGW,Nat.blt_eq,Bool.not_eq_eq_eq_not,ZGq]at hc;obtain⟨⟨⟨h1,h2⟩,h3⟩,h4⟩:=hc;split at h;·rename_i v hv;cases h;obtain⟨u,hr,hrun⟩:=ZCB hτ (k:=k) BX he h1 (ZGJ h2) h3 h4 hv E.w rx;exact .same g hrun hr
      ·cases h
     ·cases h
    ·cases h
   ·cases h
  ·cases h
 ·cases h
end
section
variable {P : Program} {τ : Ap} {E : AF} {os objs : AH} {n : Nat}
theorem hY{T:Ty}:∀{parts:List (Nat×V)}{vals:List (Nat×Value)}{n:Nat}{xs:List T.den},QV T n parts=some xs→parts.map (·.1)=vals.map (·.1)→(∀(j:Nat)(p:Nat×V)(q:Nat×Value),parts[j]?=some p→vals[j]?=some q→AC P E p.2 q.2)→xs.length=parts.length∧∃cs,A8 E.w E.S T xs cs∧∀(cells:Array Value),n*T.size+parts.length*T.size≤cells.size→Instr.fill (λi=>some (i*T.size,T.size)) cells vals=some (cells.toList.take (n*T.size)++cs++cells.toList.drop (n*T.size+cs.length)).toArray
 |[],vals,n,xs,h,hm,_=>by
  have :vals=[]:=by simpa using hm.symm
  subst this;simp only[QV,ZHl]at h;subst h;exact⟨rfl,[],rfl,λcells _=>by simp[Instr.fill]⟩|(i,v)::parts,[],n,xs,h,hm,_=>by simp at hm|(i,v)::parts,(i',c)::vals,n,xs,h,hm,hr=>by
  simp only[ZGi,ZIh]at hm;obtain⟨rfl,hm⟩:=hm;simp only[QV]at h;split at h
  ·rename_i hi;have hi:=ZGJ hi;subst hi;split at h
   ·rename_i new hn;split at h
    ·rename_i x hp;split at h
     ·rename_i l hl;cases h;have hc:=IW hp (VK hn (hr 0 _ _ rfl rfl)).1;obtain⟨h1,cs,h2,h3⟩:=hY (vals:=vals) hl hm λj p q hp hq=>hr (j+1) p q (by simpa using hp) (by simpa using hq);have hcl:=hc.length;have X3:=h2.length;refine⟨by simp[h1],c.cells.toList++cs,⟨_,_,rfl,hc,h2⟩,λcells DY=>?_⟩;have hmul:(i+1)*T.size=i*T.size+T.size:=ZHS _ _;have ZBb:(parts.length+1)*T.size=parts.length*T.size+T.size:=ZHS _ _;simp only[ZGL]at DY;rw[XL (off:=i*T.size) (size:=T.size) rfl hcl (by omega),h3 _ (by simp only[ZII,ZGI,ZGP,ZG1,ZGn]at hcl⊢;omega)];congr 2;have ZFn:cs.length=parts.length*T.size:=by rw[X3,h1]
      apply ZHX;intro k;have hA:(cells.toList.take (i*T.size)++c.cells.toList++cells.toList.drop (i*T.size+c.cells.toList.length)).length=cells.size:=by simp only[ZGI,ZGP,ZG1,ZGn]at hcl⊢;omega
      have s1:=I9 (A:=cells.toList.take (i*T.size)++c.cells.toList++cells.toList.drop (i*T.size+c.cells.toList.length)) (vs:=cs) (o:=(i+1)*T.size) (by rw[hA];omega) k;have s2:=I9 (A:=cells.toList) (vs:=c.cells.toList) (o:=i*T.size) (by simp only[ZGn]at hcl⊢;omega) k;have s3:=I9 (A:=cells.toList) (vs:=c.cells.toList++cs) (o:=i*T.size) (by simp only[ZGI,ZGn]at hcl⊢;omega) k;rw[s1,s2,s3];simp only[ZGI]at hcl⊢;by_cases c1:k<i*T.size;·rw[ZGE (by omega),ZGE c1,ZGE c1]
      ·by_cases c2:k<i*T.size+T.size;·rw[ZGE (by omega),ZGA c1,ZGE (by omega),ZGA c1,ZGE (by omega),ZHK (by omega)]
       ·rw[ZGA (by omega)];by_cases c3:k<(i+1)*T.size+cs.length;·rw[ZGE c3,ZGA c1,ZGE (by omega),ZG5 (by omega)];congr 1;omega
        ·rw[ZGA c3,ZGA c1,ZGA (by omega),ZGA c1,ZGA (by omega)]
     ·cases h
    ·cases h
   ·cases h
  ·cases h
theorem eO:∀{parts:List (Nat×V)}{vals:List (Nat×Value)}{n:Nat}{cs:List V},cellsOf n parts=some cs→parts.map (·.1)=vals.map (·.1)→(∀(j:Nat)(p:Nat×V)(q:Nat×Value),parts[j]?=some p→vals[j]?=some q→AC P E p.2 q.2)→cs.length=parts.length∧∃us,AZ P E cs us∧∀(cells:Array Value),n+parts.length≤cells.size→Instr.fill (λi=>some (i*1,1)) cells vals=some (cells.toList.take n++us++cells.toList.drop (n+us.length)).toArray
 |[],vals,n,cs,h,hm,_=>by
  have :vals=[]:=by simpa using hm.symm
  subst this;simp only[cellsOf,ZHl]at h;subst h;exact⟨rfl,[],.nil,λcells _=>by simp[Instr.fill]⟩|(i,v)::parts,[],n,cs,h,hm,_=>by simp at hm|(i,v)::parts,(i',c)::vals,n,cs,h,hm,hr=>by
  simp only[ZGi,ZIh]at hm;obtain⟨rfl,hm⟩:=hm;simp only[cellsOf]at h;split at h
  ·rename_i hi;have hi:=ZGJ hi;subst hi;split at h
   ·rename_i hv;split at h
    ·rename_i l hl;cases h;have rc:=hr 0 _ _ rfl rfl;have IN:=SM hv rc;have Gn:=WT IN;obtain⟨h1,us,h2,h3⟩:=eO (vals:=vals) hl hm λj p q hp hq=>hr (j+1) p q (by simpa using hp) (by simpa using hq);have Y5:us.length=parts.length:=h2.1.trans h1;refine⟨by simp[h1],c::us,.cons rc h2,λcells DY=>?_⟩;simp only[ZGL]at DY;rw[XL (off:=i*1) (size:=1) rfl (by rw[Gn];rfl) (by omega),h3 _ (by rw[Gn];simp only[ZII,ZGI,ZGP,ZG1,ZGn,ZGL,ZGS];omega)];congr 2;rw[Gn,ZIM];apply ZHX;intro k;have s1:=I9 (A:=cells.toList.take i++[c]++cells.toList.drop (i+[c].length)) (vs:=us) (o:=i+1) (by simp only[ZGI,ZGP,ZG1,ZGn,ZGL,ZGS];omega) k;have s2:=I9 (A:=cells.toList) (vs:=[c]) (o:=i) (by simp;omega) k;have s3:=I9 (A:=cells.toList) (vs:=c::us) (o:=i) (by simp;omega) k;simp only[ZGL,ZGS,ZGu]at s1 s2 s3⊢;rw[s1,s2,s3];by_cases c1:k<i;·rw[ZGE (by omega),ZGE c1,ZGE c1]
     ·by_cases c2:k<i+1
      ·rw[ZGE c2,ZGA c1,ZGE c2,ZGA c1,ZGE (by omega)];have :k-i=0:=by omega
       rw[this];rfl
      ·rw[ZGA c2];by_cases c3:k<i+1+us.length
       ·rw[ZGE c3,ZGA c1,ZGE (by omega)];have :k-i=k-(i+1)+1:=by omega
        rw[this];rfl
       ·rw[ZGA c3,ZGA c1,ZGA c2,ZGA c1,ZGA (by omega)]
    ·cases h
   ·cases h
  ·cases h
theorem oY{t e:TypeId}{info:TypeInfo}{z:Value}{len sz:Nat}{vals:Array (Nat×Value)}{cs:List Value}(ht:P.underlying t=some (.slice e))(hi:P.info? e=some info)(hz:info.zero=some z)(hs:info.size=sz)(Yy:len*sz≤16777216)(hf:∀cells:Array Value,cells.size=len*sz→Instr.fill (λi=>some (i*sz,sz)) cells vals.toList=some cs.toArray)(w:World):(Instr.buildSlice t len vals).run P w=.ok (.slice (some ⟨w.heap.size,0,none⟩) len len) (w.alloc (.cells cs.toArray e)):=by
 subst hs;have JX:¬len*info.size>2^24:=by omega
 by_cases B6:len*info.size=0
 ·have h5:=hf #[] (by simp[B6]);have e2:(Array.range (len*info.size)).map (λx=>(#[]:Array Value)[x%(#[]:Array Value).size]!)=#[]:=by rw[B6];apply ZIy;simp
  simp only[Instr.buildSlice,ZG7,ZGX ht,ZGm,I8 hi,ZGA JX,Sem.run_ite,ZGE B6,ZHe,e2,h5];simp[newRow]
 ·have h5:=hf ((Array.range (len*info.size)).map (z.cells[·%z.cells.size]!)) (by simp);simp[Instr.buildSlice,ZGX ht,I8 hi,JX,B6,M1 hi hz,h5,newRow]
theorem zY(hτ:BQ P τ){t:TypeId}{len:Nat}{parts:List (Nat×V)}{vals:Array (Nat×Value)}{out:Av}(h:Wo τ n t len parts=some out)(g:AE P E objs)(hf:E.loc n=none)(hm:parts.map (·.1)=vals.toList.map (·.1))(hr:∀(j:Nat)(p:Nat×V)(q:Nat×Value),parts[j]?=some p→vals.toList[j]?=some q→AC P E p.2 q.2):Bl P (Instr.buildSlice t len vals) E objs out:=by
 unfold Wo at h;split at h
 ·rename_i e sz by_ zero co BX;have ht:P.underlying t=some (.slice e):=(hτ t _ BX).kind;split at h
  ·rename_i k size bytes zero' T hei;have hei:=hτ e _ hei;split at h
   ·rename_i hc;simp only[ZGW]at hc;have hlen:=ZGJ hc.1;have Yy:=ZGk hc.2;split at h
    ·rename_i xs h1;cases h;obtain⟨hTs,AU,_⟩:=hei.code T rfl;have hTs:T.size=size:=hTs;have AU:0<T.size:=by rw[hTs];exact AU
     obtain⟨info,z,hi,hs,hb,hz,DO,Da⟩:=hei.info;obtain⟨h2,cs,h3,h4⟩:=hY (vals:=vals.toList) h1 hm hr;have hcl:=h3.length;have hrun:=oY (P:=P) (vals:=vals) (cs:=cs) (len:=len) (sz:=T.size) ht hi hz (by rw[hs];exact hTs.symm) (by rw[hTs];exact Yy) λcells hcs=>by rw[h4 cells (by rw[hcs,hlen];omega),ZJR,ZGu,ZIL (by rw[ZGn,hcs,hcl,h2,hlen];exact ZGR _)];simp E.w;have IN:xs.length*1≤xs.length*T.size:=Nat.mul_le_mul_left _ AU;have hmul:len*size=xs.length*T.size:=by rw[h2,hlen,hTs]
     obtain⟨E',hw,g1,g2,g3⟩:=Rx g hf (xs:=xs) (w:=E.w.alloc (.cells cs.toArray e)) (cur:=cs.toArray) (e:=e) (cap:=xs.length) (ZHV _ _ _) (ZIG _ _) AU (ZGR _) (by unfold maxLen;omega) (by simp[hcl]) h3 (by rw[←hcl];simp);refine⟨E',_,by rw[hw];exact hrun,g1,g2,?_⟩;have e1:xs.length=len:=by rw[h2,hlen]
     rw[e1]at g3;exact .osl g3
    ·cases h
   ·cases h
  ·rename_i k size bytes zero' hei;have hei:=hτ e _ hei;split at h
   ·rename_i hc;simp only[ZGW]at hc;obtain⟨⟨⟨It,Kd⟩,hc3⟩,hc4⟩:=hc;have hlen:=ZGJ It;have Yy:=ZGk Kd;have Am:=ZGJ hc3;split at h;·rename_i cs h1;cases h;obtain⟨info,z,hi,hs,hb,hz,DO,Da⟩:=hei.info;obtain⟨h2,us,h3,h4⟩:=eO (vals:=vals.toList) h1 hm hr;have hrun:=oY (P:=P) (vals:=vals) (cs:=us) (len:=len) (sz:=1) ht hi hz (by rw[hs];exact Am) (by omega) λcells hcs=>by rw[h4 cells (by omega),ZGu,ZIL (by rw[ZGn,hcs,h3.1,h2,hlen];omega)];simp E.w;obtain⟨E',hw,g1,g2,g3⟩:=Rv g hf (t:=e) (cs:=cs) (vals:=us.toArray) (by simpa using h3);exact⟨E',_,by rw[hw];exact hrun,g1,g2,.bsl g3⟩
    ·cases h
   ·cases h
  ·cases h
 ·cases h
theorem Zb{z:Array Value}{n c:Nat}(hz:0<z.size)(h:n≤c):(madeCells z (c*z.size)).toList.take (n*z.size)=(List.replicate n z.toList).flatten:=by
 have hl:n*z.size≤c*z.size:=ZHB _ h;have key:∀n k,k<n*z.size→(List.replicate n z.toList).flatten[k]?=some z[k%z.size]!:=by intro n;induction n with|zero=>intro k hk;simp at hk|succ n ih=>
  intro k hk;rw[ZIv,ZIV];rcases ZHj k z.size with h1|h1;·rw[ZHK (by simpa using h1),Nat.mod_eq_of_lt h1];simp[h1]
  ·rw[ZG5 (by simpa using h1),ZGn,ih _ (by rw[ZHS]at hk;omega),Nat.mod_eq_sub_mod h1]
 have MJ:∀n,(List.replicate n z.toList).flatten.length=n*z.size:=by intro n;simp
 apply ZHX;intro k;rw[ZGg];split;·rename_i hk;rw[key n k hk];simp only[madeCells,ZHG,ZKx];rw[ZKe,ZGE (by omega)];rfl
 ·rw[ZHL (by rw[MJ];omega)]
theorem ZAK(hτ:BQ P τ){t:TypeId}{l c:V}{out:Av}(h:W1 τ n t l c=some out)(ho:BM out.ob)(g:AE P E objs)(hf:E.loc n=none){l' c':Value}(rl:AC P E l l')(rc:AC P E c c'):Bl P (Instr.makeSlice t l' c') E objs out:=by
 unfold W1 at h;split at h
 ·rename_i e sz by_ zero co BX;have ht:P.underlying t=some (.slice e):=(hτ t _ BX).kind;split at h
  ·rename_i l0;obtain⟨l,CW⟩:∃l:Int,l=l0:=⟨l0,rfl⟩;subst CW;have hl:=rl.int_inv;subst hl;split at h
   ·rename_i c0;obtain⟨c,Be⟩:∃c:Int,c=c0:=⟨c0,rfl⟩;subst Be;have hc:=rc.int_inv;subst hc;split at h
    ·rename_i k size bytes zero' T hei;have hei:=hτ e _ hei;cases h;obtain⟨h0,LY,NT,J8⟩:0≤l∧l≤c∧c*bytes≤140737488355328∧c≤9223372036854775807:=ho;obtain⟨hTs,AU,B6⟩:=hei.code T rfl;have hTs:T.size=size:=hTs;have AU:0<T.size:=by rw[hTs];exact AU
     obtain⟨info,z,hi,hs,hb,hz,DO,Da⟩:=hei.info;have hs:info.size=size:=hs;have hb:info.bytes=bytes:=hb;have DO:z.cells.toList=zero':=DO;have Da:z.cells.size=size:=Da;have hrun:=run_make (P:=P) E.w t e info z ht hi hz .i64 .i64 l c h0 LY (by rw[hb,ZIK];omega) J8;have hzz:z.cells.size=T.size:=by rw[Da,hTs]
     have YZ:l.toNat≤c.toNat:=by omega
     have plain:Bl P (Instr.makeSlice t (.int .i64 l) (.int .i64 c)) E objs ⟨some (0≤l∧l≤c∧c*bytes≤140737488355328∧c≤9223372036854775807),.osl n,some (n,.row T (List.replicate l.toNat T.dflt),false)⟩:=by obtain⟨E',hw,g1,g2,g3⟩:=Rx g hf (xs:=List.replicate l.toNat T.dflt) (w:=E.w.alloc (.cells (madeCells z.cells (c.toNat*info.size)) e)) (cur:=madeCells z.cells (c.toNat*info.size)) (e:=e) (cap:=c.toNat) (ZHV _ _ _) (ZIG _ _) AU (by simpa using YZ) (by unfold maxLen;omega) (by rw[size_madeCells,hs,hTs]) (Pp (B6 E.w E.S) l.toNat) (by rw[ZGj,hs,←hTs,←hzz,Zb (by omega) YZ,←DO]);refine⟨E',_,by rw[hw];exact hrun,g1,g2,?_⟩;rw[ZGj]at g3;exact .osl g3
     cases T with|sl u=>
      unfold uW;split
      ·rename_i u' hu;cases hu;split
       ·split
        ·have DD:info.size=1:=hs.trans hTs.symm;have Be:z.cells.toList=[.slice none 0 0]:=DO;have hza:z.cells=#[.slice none 0 0]:=by rw[←ZKf (xs:=z.cells),Be]
         obtain⟨E',hw,g1,g2,g3⟩:=ZDL (T:=u) (m:=l.toNat) g hf (w:=E.w.alloc (.cells (madeCells z.cells (c.toNat*info.size)) e)) (cur:=madeCells z.cells (c.toNat*info.size)) (e:=e) (cap:=c.toNat) (ZHV _ _ _) (ZIG _ _) YZ (by unfold maxLen;omega) (by rw[size_madeCells,DD,ZIM]) λi hi=>by rw[hza,DD,ZIM];simp only[madeCells,ZKx];rw[ZKe,ZGE (by omega)];simp[Nat.mod_one]
         exact⟨E',_,by rw[hw];exact hrun,g1,g2,.osl g3⟩
        ·exact plain
       ·exact plain
      ·rename_i hn;exact absurd rfl (hn u)|_=>exact plain
    ·cases h
   ·cases h
  ·cases h
 ·cases h
def Ef(w:World)(size m:Nat)(news:List Value)(c:Value):Prop:=news.length=m*size∧((∃a cap,c=.slice a m cap∧(0<m→∃ad,a=some ad∧∀j v,news[j]?=some v→w.cell? (ad.add j)=some v))∨∃s:ByteArray,c=.string s∧m=s.size∧news=Lib.strCells s)
theorem Ef.lenOf{w:World}{size m:Nat}{news:List Value}{c:Value}(h:Ef w size m news c)(w':World):(Builtin.lenOf c).run P w'=.ok m w':=by obtain⟨h1,⟨a,cap,rfl,h2⟩|⟨s,rfl,rfl,h2⟩⟩:=h<;>simp[Builtin.lenOf]
theorem Ef.run{w:World}{size m:Nat}{news:List Value}{c:Value}(h:Ef w size m news c){w':World}(hw:w'.heap=w.heap):(Builtin.firstCells size m c).run P w'=.ok news.toArray w':=by
 obtain⟨h1,⟨a,cap,rfl,h2⟩|⟨s,rfl,rfl,rfl⟩⟩:=h
 ·by_cases hm:0<m;·obtain⟨ad,rfl,h3⟩:=h2 hm;exact run_firstCells_some (P:=P) w' size m ad m cap news h1 λj v hj=>by rw[show w'.cell? (ad.add j)=w.cell? (ad.add j)from by simp only[World.cell?,hw]];exact h3 j v hj
  ·have h0:m=0:=by omega
   subst h0;have hn:news=[]:=ZGY (by omega);subst hn;cases a with|none=>simp[Builtin.firstCells]|some ad=>simp[Builtin.firstCells,loadCells,loadCellsFrom]
 ·exact Lib.run_firstCells_string w' size s
theorem sQ{T:Ty}{l:List T.den}{c:Value}(h:BZ E.w E.S (.sl T) l [c]):∃cs,A8 E.w E.S T l cs∧Ef E.w T.size l.length cs c:=by
 obtain⟨a,cap,hc,FU,hl⟩:=h;have hc':c=.slice a l.length cap:=by simpa using hc
 subst hc';by_cases hne:l=[];·subst hne;exact⟨[],rfl,by simp,.inl ⟨a,cap,rfl,λh=>by simp at h⟩⟩
 ·obtain⟨b,off,rfl,hS,hx⟩:=hl hne;have :∀(l':List T.den)(k:Nat),(∀i x,l'[i]?=some x→l[k+i]?=some x)→∃cs,A8 E.w E.S T l' cs∧∀j u,cs[j]?=some u→E.w.cell? ⟨b,off+k*T.size+j,none⟩=some u:=by intro l';induction l' with|nil=>intro k _;exact⟨[],rfl,λj u h=>by simp at h⟩|cons x l' ih=>
   intro k hk;obtain⟨cs',h1,h2⟩:=hx k x (hk 0 x rfl);obtain⟨cs,h3,h4⟩:=ih (k+1) λi y hy=>by rw[show k+1+i=k+(i+1)from by omega];exact hk (i+1) y (by simpa using hy)
   have EJ:=h1.length;refine⟨cs'++cs,⟨cs',cs,rfl,h1,h3⟩,λj u hj=>?_⟩;rcases ZHj j cs'.length with Ab|FW;·rw[ZHK Ab]at hj;exact h2 j u hj
   ·rw[ZG5 FW]at hj;have :=h4 _ u hj;rw[ZHS]at this;rw[←this];congr 2;omega
  obtain⟨cs,h1,h2⟩:=this l 0 λi x h=>by simpa using h
  refine⟨cs,h1,h1.length,.inl ⟨_,cap,rfl,λ_=>⟨_,rfl,λj v hj=>?_⟩⟩⟩;rw[ZHd];simpa using h2 j v hj
theorem A8.take{w:World}{S:Nat→Prop}{t:Ty}:∀{l:List t.den}{cs:List Value}(n:Nat),A8 w S t l cs→A8 w S t (l.take n) (cs.take (n*t.size))|l,cs,0,_=>by simp[A8]|[],cs,n+1,h=>by rw[show cs=[]from h];simp[A8]|x::l,cs,n+1,⟨c1,c2,h,h1,h2⟩=>by have hl:=h1.length;refine⟨c1,c2.take (n*t.size),?_,h1,h2.take n⟩;rw[h,ZHS,←hl,Nat.add_comm,List.take_length_add_append,hl]
theorem A8.drop{w:World}{S:Nat→Prop}{t:Ty}:∀{l:List t.den}{cs:List Value}(n:Nat),A8 w S t l cs→A8 w S t (l.drop n) (cs.drop (n*t.size))|l,cs,0,h=>by simpa using h|[],cs,n+1,h=>by rw[show cs=[]from h];simp[A8]|x::l,cs,n+1,⟨c1,c2,h,h1,h2⟩=>by have hl:=h1.length;rw[h,ZHS,←hl,show n*c1.length+c1.length=c1.length+n*c1.length from Nat.add_comm _ _,List.drop_length_add_append,hl];exact h2.drop n
theorem bA{L:Ai}{T:Ty}{xs:List T.den}(h:Ay P E L (.row T xs)){lo m:Nat}(EK:lo+m≤xs.length){c:Value}(hp:L.Part lo m c):∃cs,A8 E.w E.S T ((xs.drop lo).take m) cs∧Ef E.w T.size m cs c:=by
 obtain⟨ER,AU,hlen,e,cs,h9,Bx⟩:=id h;have hdl:((xs.drop lo).take m).length=m:=by simp;omega
 rcases Bx with⟨hc,rfl⟩|⟨cur,Bk,CA,KH,Kr,PX,Ks,Kt⟩
 ·have hm:m=0:=by simp at EK;omega
  subst hm;obtain⟨a,rfl,_⟩:=hp;exact⟨[],by simp[A8],by simp,.inl ⟨_,_,rfl,λh=>by omega⟩⟩
 ·refine⟨(cs.drop (lo*T.size)).take (m*T.size),(h9.drop lo).take m,by have :=((h9.drop lo).take m).length;rw[hdl]at this;exact this,.inl ?_⟩;by_cases hm:m=0;·subst hm;obtain⟨a,rfl,_⟩:=hp;exact⟨_,_,rfl,λh=>by omega⟩
  ·rw[U9 h EK (by omega) hp];refine⟨_,_,rfl,λ_=>⟨_,rfl,λj v hj=>?_⟩⟩;rw[ZGg]at hj;split at hj
   ·rename_i lR;rw[ZHy]at hj;rw[ZHd,KU CA];rw[←Kt,ZGg]at hj;split at hj;·simpa using hj
    ·cases hj
   ·cases hj
theorem N9{L:Ai}{T:Ty}{xs:List T.den}(h:Ay P E L (.row T xs)):L.Part 0 xs.length L.v:=by
 have hlen:=h.2.2.1;obtain⟨_,_,_,e,cs,h9,Bx⟩:=h;refine⟨L.a,by rw[Ai.v,hlen];rfl,λhc=>?_⟩;rcases Bx with⟨h0,rfl⟩|⟨cur,Bk,CA,KH,Kr,_⟩;·exact absurd h0 hc
 ·simp[Bk,ZHd]
theorem sB{L:Ai}{T:Ty}{xs:List T.den}(h:Ay P E L (.row T xs)):∃cs,A8 E.w E.S T xs cs∧Ef E.w T.size xs.length cs L.v:=by have :=bA h (lo:=0) (m:=xs.length) (by omega) (N9 h);rw[ZJs,ZGN]at this;exact this
theorem tD{T:Ty}{x:V}{ys:List T.den}{p:Option Prop}(h:VS T os x=some (ys,p))(hs:DL os objs)(hp:BM p)(g:AE P E objs){c:Value}(r:AC P E x c):(∃cs,A8 E.w E.S T ys cs∧Ef E.w T.size ys.length cs c)∧∃a m cap,c=.slice a m cap:=by
 unfold VS at h;split at h
 ·rename_i l;split at h
  ·rename_i t xs hcs;split at h;·rename_i ht;subst ht;cases h;obtain⟨L,hL,_,hat⟩:=g.get hs hcs;obtain⟨K,hK,rfl⟩:=GQ r;rw[hL]at hK;cases hK;exact⟨sB hat,_,_,_,rfl⟩
   ·cases h
  ·cases h
 ·rename_i l lo m;split at h
  ·rename_i t xs hcs;split at h
   ·rename_i ht;subst ht;cases h;have hp:lo+m≤xs.length:=hp;obtain⟨L,hL,_,hat⟩:=g.get hs hcs;obtain⟨K,hK,Fz⟩:=KJ r;rw[hL]at hK;cases hK;have hdl:((xs.drop lo).take m).length=m:=by simp;omega
    simp only[hdl];refine⟨bA hat hp Fz,?_⟩;obtain⟨a,rfl,_⟩:=Fz;exact⟨_,_,_,rfl⟩
   ·cases h
  ·cases h
 ·split at h;·rename_i l hl;cases h;have hc:=dU hl r;refine⟨sQ hc,?_⟩;obtain⟨a,cap,h,_⟩:=hc;exact⟨a,_,cap,by simpa using h⟩
  ·cases h
theorem tB{T:Ty}{x:V}{ys:List T.den}{p:Option Prop}(h:bQ T os x=some (ys,p))(hs:DL os objs)(hp:BM p)(g:AE P E objs){c:Value}(r:AC P E x c):∃cs,A8 E.w E.S T ys cs∧Ef E.w T.size ys.length cs c:=by
 unfold bQ at h;split at h
 ·rename_i s;split at h
  ·cases h;rw[r.str_inv];have hl:(Kz s).length=ByteArray.size s:=by simp only[Kz,ZGM,ZGn];rfl
   refine⟨Lib.strCells s,?_,by simp[Lib.strCells_length,Ty.size,hl],.inr ⟨s,rfl,hl,rfl⟩⟩;have :∀l:List UInt8,A8 E.w E.S (.int .u8) (l.map λb=>(b.toNat:Int)) (l.map λb=>Value.int .u8 b.toNat):=by intro l;induction l with|nil=>rfl|cons b l ih=>exact⟨[_],_,rfl,rfl,ih⟩
   exact this (ByteArray.data s).toList
  ·cases h
 ·exact(tD h hs hp g r).1
theorem dR{t tx ty e:TypeId}{i:TypeInfo}{z:Value}{dx:TypeDesc}(Bf:P.underlying tx=some dx)(B2:(∃ex,dx=.slice ex)∨dx=.string)(ht:P.underlying t=some (.slice e))(hi:P.info? e=some i)(hz:i.zero=some z)(w:World){base:Option Addr}{n cap m:Nat}{olds news:List Value}{c:Value}(hold:(Builtin.firstCells i.size n (.slice base n cap)).run P w.drew=.ok olds.toArray w.drew)(hs:Ef w i.size m news c)(hg:cap<n+m)(Qm:((n+m:Nat):Int)≤9223372036854775807)(DY:Builtin.nextslicecap (n+m) cap*i.bytes≤281474976710656):(Builtin.append_ #[t,tx] ty #[.slice base n cap,c]).run P w=.ok (.slice (some ⟨w.heap.size,0,none⟩) (n+m) (grownCap w (n+m) cap e)) (w.drew.alloc (.cells (olds.toArray++news.toArray++Builtin.zeroCells z.cells (grownCap w (n+m) cap e-(n+m))) e)):=by
 have hf:=hs.run (P:=P) (w':=w.drew) rfl;have hlen:=λw'=>hs.lenOf (P:=P) w';have hn:¬n+m≤cap:=by omega
 have Ti:¬9223372036854775807<(n:Int)+(m:Int):=by omega
 have Th:¬281474976710656<Builtin.nextslicecap (n+m) cap*i.bytes:=by omega
 rcases B2 with⟨ex,rfl⟩|rfl<;>simp[Builtin.append_,ZGX ht,ZGX Bf,sizeOf,typeInfo,zeroValue,hi,hz,hlen,hn,Ti,Th,Question.forced,hold,hf,newRow,grownCap];all_goals congr 2;apply ZJd;simp
theorem dQ{t tx ty e e':TypeId}{i:TypeInfo}{dx:TypeDesc}(Bf:P.underlying tx=some dx)(B2:(∃ex,dx=.slice ex)∨dx=.string)(ht:P.underlying t=some (.slice e))(hi:P.info? e=some i)(w:World){b:Nat}{cur:Array Value}{n cap m:Nat}{news:List Value}{c:Value}(hb:w.heap[b]?=some (.cells cur e' (0,0)))(hs:Ef w i.size m news c)(h1:∀u∈news,u.oneCell'=true)(hg:n+m≤cap)(DY:n*i.size+news.length≤cur.size):(Builtin.append_ #[t,tx] ty #[.slice (some ⟨b,0,none⟩) n cap,c]).run P w=.ok (.slice (some ⟨b,0,none⟩) (n+m) cap) (w.setRow b (cur.toList.take (n*i.size)++news++cur.toList.drop (n*i.size+news.length)).toArray):=by have hf:=hs.run (P:=P) (w':=w) rfl;have hlen:=λw'=>hs.lenOf (P:=P) w';have BO:=ZI9 P b (n*i.size) e' news 0 cur w hb (by simpa using DY) h1;simp only[ZHw]at BO;rcases B2 with⟨ex,rfl⟩|rfl<;>simp[Builtin.append_,ZGX ht,ZGX Bf,sizeOf,typeInfo,hi,hlen,hg,hf,ZHd,BO]
theorem WA{t tx ty e:TypeId}{i:TypeInfo}{dx:TypeDesc}(Bf:P.underlying tx=some dx)(B2:(∃ex,dx=.slice ex)∨dx=.string)(ht:P.underlying t=some (.slice e))(hi:P.info? e=some i)(w:World){a:Option Addr}{news:List Value}{c:Value}(hs:Ef w i.size 0 news c):(Builtin.append_ #[t,tx] ty #[.slice a 0 0,c]).run P w=.ok (.slice a 0 0) w:=by have hf:=hs.run (P:=P) (w':=w) rfl;have hlen:=λw'=>hs.lenOf (P:=P) w';have hn:news=[]:=ZGY (by have :=hs.1;omega);subst hn;rcases B2 with⟨ex,rfl⟩|rfl<;>cases a<;>simp[Builtin.append_,ZGX ht,ZGX Bf,sizeOf,typeInfo,hi,hlen,hf,storeCells]
theorem dS{t tx ty e:TypeId}{i:TypeInfo}{z:Value}(Bf:P.underlying tx=some (.int .i64))(ht:P.underlying t=some (.slice e))(hi:P.info? e=some i)(hz:i.zero=some z)(w:World){a:Option Addr}{m:Int}(h0:0≤m)(h1:m*i.bytes≤140737488355328)(h2:m≤9223372036854775807):(Builtin.append_ #[t,tx] ty #[.slice a 0 0,.int .i64 m]).run P w=if m=0 then .ok (.slice a 0 0) w else .ok (.slice (some ⟨w.heap.size,0,none⟩) m.toNat (grownCap w m.toNat 0 e)) (w.drew.alloc (.cells ((if m.toNat*i.size=0 then#[]else Builtin.zeroCells z.cells m.toNat)++Builtin.zeroCells z.cells (grownCap w m.toNat 0 e-m.toNat)) e)):=by
 have hw:IntKind.i64.wrap m=m:=QY (k:=.i64) ⟨by omega,h2⟩;have hn:¬m<0:=by omega
 have hb:¬281474976710656<m*(i.bytes:Int):=by omega
 split;·rename_i hm;subst hm;have JZ:IntKind.i64.wrap 0=0:=hw;cases a<;>simp[Builtin.append_,ZGX ht,ZGX Bf,sizeOf,typeInfo,zeroValue,hi,hz,Go.asInt,asIntOf,JZ,storeCells]
 ·rename_i hm;have hg:¬m.toNat≤0:=by omega
  have ZA6:((m.toNat:Nat):Int)=m:=by omega
  have Qm:¬9223372036854775807<m:=by omega
  have Q7:((m.toNat*i.bytes:Nat):Int)=m*i.bytes:=by rw[ZJg,ZA6]
  have kA:¬281474976710656<Builtin.nextslicecap m.toNat 0*i.bytes:=by have :=ZKc (need:=m.toNat) (old:=0) (bytes:=i.bytes) (by omega) (by omega);omega
  have PK:¬m≤0:=by omega
  have GF:max m 0=m:=by omega
  have Tx:∀w',(Builtin.firstCells i.size 0 (.slice a 0 0)).run P w'=.ok #[] w':=by intro w';cases a<;>simp[Builtin.firstCells,loadCells,loadCellsFrom]
  by_cases B6:m.toNat*i.size=0;·simp[Builtin.append_,ZGX ht,ZGX Bf,sizeOf,typeInfo,zeroValue,hi,hz,Go.asInt,asIntOf,hw,hn,hb,PK,GF,Qm,kA,Question.forced,newRow,grownCap,Tx,B6]
  ·simp[Builtin.append_,ZGX ht,ZGX Bf,sizeOf,typeInfo,zeroValue,hi,hz,Go.asInt,asIntOf,hw,hn,hb,PK,GF,Qm,kA,Question.forced,newRow,grownCap,Tx,B6]
def OU(P:Program)(tx:TypeId)(i:TypeInfo)(z:Value)(w:World)(m:Nat)(news:List Value)(c:Value):Prop:=(∃dx,P.underlying tx=some dx∧((∃ex,dx=.slice ex)∨dx=.string)∧Ef w i.size m news c)∨P.underlying tx=some (.int .i64)∧∃k:Int,c=.int .i64 k∧0≤k∧k.toNat=m∧k*i.bytes≤140737488355328∧k≤9223372036854775807∧news=(Builtin.zeroCells z.cells m).toList
theorem wV{t tx ty e:TypeId}{i:TypeInfo}{z:Value}(ht:P.underlying t=some (.slice e))(hi:P.info? e=some i)(hz:i.zero=some z)(hzz:z.cells.size=i.size)(w:World){base:Option Addr}{n cap m:Nat}{olds news:List Value}{c:Value}(hold:(Builtin.firstCells i.size n (.slice base n cap)).run P w.drew=.ok olds.toArray w.drew)(hs:OU P tx i z w m news c)(hg:cap<n+m)(Qm:((n+m:Nat):Int)≤9223372036854775807)(DY:Builtin.nextslicecap (n+m) cap*i.bytes≤281474976710656):(Builtin.append_ #[t,tx] ty #[.slice base n cap,c]).run P w=.ok (.slice (some ⟨w.heap.size,0,none⟩) (n+m) (grownCap w (n+m) cap e)) (w.drew.alloc (.cells (olds.toArray++news.toArray++Builtin.zeroCells z.cells (grownCap w (n+m) cap e-(n+m))) e)):=by
 rcases hs with⟨dx,Bf,B2,hs⟩|⟨Bf,k,rfl,h0,rfl,h1,h2,rfl⟩;·exact dR Bf B2 ht hi hz w hold hs hg Qm DY
 ·have hw:IntKind.i64.wrap k=k:=QY (k:=.i64) ⟨by omega,h2⟩;have hn:¬k<0:=by omega
  have hb:¬281474976710656<k*(i.bytes:Int):=by omega
  have hg':¬n+k.toNat≤cap:=by omega
  have Ti:¬9223372036854775807<(n:Int)+max k 0:=by omega
  have Th:¬281474976710656<Builtin.nextslicecap (n+k.toNat) cap*i.bytes:=by omega
  by_cases B6:k.toNat*i.size=0;·have e1:Builtin.zeroCells z.cells k.toNat=#[]:=ZIy (by rw[ZIf,hzz,B6]);simp[Builtin.append_,ZGX ht,ZGX Bf,sizeOf,typeInfo,zeroValue,hi,hz,Go.asInt,asIntOf,hw,hn,hb,hg',Ti,Th,Question.forced,newRow,grownCap,hold,e1]
  ·simp[Builtin.append_,ZGX ht,ZGX Bf,sizeOf,typeInfo,zeroValue,hi,hz,Go.asInt,asIntOf,hw,hn,hb,hg',Ti,Th,Question.forced,newRow,grownCap,hold,B6]
theorem wU{t tx ty e e':TypeId}{i:TypeInfo}{z:Value}(ht:P.underlying t=some (.slice e))(hi:P.info? e=some i)(hz:i.zero=some z)(hzz:z.cells.size=i.size)(w:World){b:Nat}{cur:Array Value}{n cap m:Nat}{news:List Value}{c:Value}(hb:w.heap[b]?=some (.cells cur e' (0,0)))(hs:OU P tx i z w m news c)(h1:∀u∈news,u.oneCell'=true)(hg:n+m≤cap)(DY:n*i.size+news.length≤cur.size):(Builtin.append_ #[t,tx] ty #[.slice (some ⟨b,0,none⟩) n cap,c]).run P w=.ok (.slice (some ⟨b,0,none⟩) (n+m) cap) (w.setRow b (cur.toList.take (n*i.size)++news++cur.toList.drop (n*i.size+news.length)).toArray):=by
 rcases hs with⟨dx,Bf,B2,hs⟩|⟨Bf,k,rfl,h0,rfl,h3,h2,rfl⟩;·exact dQ Bf B2 ht hi w hb hs h1 hg DY
 ·have hw:IntKind.i64.wrap k=k:=QY (k:=.i64) ⟨by omega,h2⟩;have hn:¬k<0:=by omega
  have hb':¬281474976710656<k*(i.bytes:Int):=by omega
  have BO:=ZI9 P b (n*i.size) e' (Builtin.zeroCells z.cells k.toNat).toList 0 cur w hb (by simpa using DY) h1;simp only[ZHw]at BO;by_cases B6:k.toNat*i.size=0;·have e1:Builtin.zeroCells z.cells k.toNat=#[]:=ZIy (by rw[ZIf,hzz,B6]);rw[e1]at BO⊢;simp[Builtin.append_,ZGX ht,ZGX Bf,sizeOf,typeInfo,zeroValue,hi,hz,Go.asInt,asIntOf,hw,hn,hb',hg,B6,ZHd]at BO⊢;rw[BO];rfl
  ·simp[Builtin.append_,ZGX ht,ZGX Bf,sizeOf,typeInfo,zeroValue,hi,hz,Go.asInt,asIntOf,hw,hn,hb',hg,B6,ZHd]at BO⊢;rw[BO];rfl
theorem wX{t tx ty e:TypeId}{i:TypeInfo}{z:Value}(ht:P.underlying t=some (.slice e))(hi:P.info? e=some i)(hz:i.zero=some z)(w:World){a:Option Addr}{news:List Value}{c:Value}(hs:OU P tx i z w 0 news c):(Builtin.append_ #[t,tx] ty #[.slice a 0 0,c]).run P w=.ok (.slice a 0 0) w:=by
 rcases hs with⟨dx,Bf,B2,hs⟩|⟨Bf,k,rfl,h0,h3,h1,h2,rfl⟩;·exact WA Bf B2 ht hi w hs
 ·have hk:k=0:=by omega
  subst hk;have :=dS (P:=P) (ty:=ty) Bf ht hi hz w (a:=a) (m:=0) (ZH4 _) (by simp) (by omega);rwa[ZGE rfl]at this
theorem tN{A B:List Value}{n:Nat}(h:A.length=n)(C:List Value)(k:Nat)(hk:n+B.length=k):(A++B++C).take k=A++B:=by subst hk h;rw[←ZGI];exact ZJt
def Sg(P:Program)(s:Sem Value)(E:AF)(L:Ai)(T:Ty)(xs zs:List T.den):Prop:=∃(w:World)(K:Ai)(row:Option Nat),E.w.grownBy w row∧(∀b,row=some b→(Obj.row T xs).has L∧b=L.b)∧(∀lo,Ay P ⟨w,E.S,lo⟩ K (.row T zs))∧((Obj.row T zs).has K→(Obj.row T xs).has L∧K.b=L.b∨E.w.heap.size≤K.b)∧s.run P E.w=.ok K.v w
theorem QA(hτ:BQ P τ){ts tx ty e:TypeId}{info:TypeInfo}{z:Value}{bytes:Nat}{T:Ty}{ys:List T.den}{news:List Value}{d:Value}(ht:P.underlying ts=some (.slice e))(hi:P.info? e=some info)(hz:info.zero=some z)(hsT:info.size=T.size)(hb:info.bytes=bytes)(hzz:z.cells.size=T.size)(AU:0<T.size)(hn1:A8 E.w E.S T ys news)(hn2:OU P tx info z E.w ys.length news d)(g:AE P E objs){l k:Nat}{xs:List T.den}{L:Ai}(Al:AB l objs=some (.row T xs))(hL:E.loc l=some L)(hat:Ay P E L (.row T xs))(hk:k≤xs.length)(h1:(k+ys.length)*bytes≤140737488355328)(h2:k+ys.length≤9223372036854775807){c0:Value}(Be:L.Part 0 k c0):Sg P (Builtin.append_ #[ts,tx] ty #[c0,d]) E L T xs (xs.take k++ys):=by
 have IM:=hn1.length;obtain⟨olds,ho1,ho2⟩:=bA hat (lo:=0) (m:=k) (by omega) Be;rw[ZJs]at ho1;have C2:=ho1.length;have Dv:(xs.take k).length=k:=by simp;omega
 have hal:(xs.take k++ys).length=k+ys.length:=by rw[ZGI,Dv]
 obtain⟨ER,_,hlen,e',cs,h9,Bx⟩:=id hat;have done:∀(w:World)(K:Ai)(row:Option Nat),E.w.grownBy w row→(∀b,row=some b→(Obj.row T xs).has L∧b=L.b)→(∀(lo:Nat→Option Ai)(hx:∀b,E.S b→E.S b∧w.heap[b]?=E.w.heap[b]?),Ay P ⟨w,E.S,lo⟩ K (.row T (xs.take k++ys)))→((Obj.row T (xs.take k++ys)).has K→(Obj.row T xs).has L∧K.b=L.b∨E.w.heap.size≤K.b)→(Builtin.append_ #[ts,tx] ty #[c0,d]).run P E.w=.ok K.v w→Sg P (Builtin.append_ #[ts,tx] ty #[c0,d]) E L T xs (xs.take k++ys):=by intro w K row hw DN BW EU hrun;have hx:=OC g (M:=[l]) Al hL hw DN (L':=K) λh=>absurd (by simp) h;exact⟨w,K,row,hw,DN,λlo=>BW lo hx.S,EU,hrun⟩
 have grow:∀(base:Option Addr)(cap:Nat),c0=.slice base k cap→k≤cap→cap<k+ys.length→Sg P (Builtin.append_ #[ts,tx] ty #[c0,d]) E L T xs (xs.take k++ys):=by
  intro base cap kQ It Kd;rw[kQ,←hsT]at ho2;rw[kQ]at done⊢;have hrun:=wV (P:=P) (ty:=ty) ht hi hz (hzz.trans hsT.symm) E.w (base:=base) (n:=k) (cap:=cap) (olds:=olds) (ho2.run rfl) hn2 Kd (by omega) (ZKc Kd (by rw[hb];exact h1));have FW:=grownCap_ge E.w (k+ys.length) cap e;have GF:=ZJ1 E.w (k+ys.length) cap e (by unfold maxLen;omega);have hcl:(Builtin.zeroCells z.cells (grownCap E.w (k+ys.length) cap e-(k+ys.length))).size=(grownCap E.w (k+ys.length) cap e-(k+ys.length))*T.size:=by rw[ZIf,hzz]
  refine done (E.w.drew.alloc (.cells (olds.toArray++news.toArray++Builtin.zeroCells z.cells (grownCap E.w (k+ys.length) cap e-(k+ys.length))) e)) ⟨E.w.heap.size,some ⟨E.w.heap.size,0,none⟩,k+ys.length,grownCap E.w (k+ys.length) cap e,T.size⟩ none ⟨rfl,rfl,rfl,by simp,λj hj _=>ZKd E.w.drew _ j hj⟩ λb hb=>by cases hb
   (λlo hx=>⟨rfl,AU,hal.symm,e,_,(ho1.append hn1).mono hx,.inr ⟨_,rfl,ZIG E.w.drew _,by rw[hal];exact FW,by show 0<grownCap _ _ _ _;omega,GF,?_,?_⟩⟩) (λ_=>.inr (ZGR _)) hrun;·simp only[ZJS,ZII,C2,Dv,IM,hcl,←ZIP];congr 1;omega
  ·simp only[ZJn];exact tN rfl _ _ (by rw[hal,C2,Dv,IM,ZIP])
 obtain⟨a0,IF,JO⟩:=Be;rcases Bx with⟨JR,rfl⟩|⟨cur,Bk,CA,KH,Kr,PX,Ks,Kt⟩
 ·have IK:k=0:=by simpa using hk
  subst IK;have HI:c0=.slice a0 0 0:=by rw[IF,JR]
  by_cases hm:ys.length=0
  ·have :ys=[]:=ZGY hm;subst this;have hrun:=wX (P:=P) (ty:=ty) ht hi hz E.w (a:=a0) (news:=news) (c:=d) hn2;have hLv:({L with a:=a0}:Ai).v=.slice a0 0 0:=by simp[Ai.v,hlen,JR]
   refine done E.w {L with a:=a0} none ⟨rfl,rfl,rfl,ZGR _,λ_ _ _=>rfl⟩ (λb hb=>by cases hb) (λlo hx=>⟨ER,AU,by simpa using hlen,e,[],rfl,.inl ⟨JR,rfl⟩⟩) (λhh=>absurd JR hh) (by rw[HI,hLv];exact hrun)
  ·exact grow a0 0 HI (ZGR _) (by omega)
 ·have HI:c0=.slice (some ⟨L.b,0,none⟩) k L.cap:=by rw[IF,JO (by omega)];simp[Bk,ZHd]
  rcases ZHj L.cap (k+ys.length)with Nc|FW;·exact grow _ L.cap HI (by omega) Nc
  ·have DY:k*info.size+news.length≤cur.size:=by rw[hsT,IM,Ks,←ZIP];exact ZHB _ FW
   have hrun:=wU (P:=P) (ty:=ty) ht hi hz (hzz.trans hsT.symm) E.w CA hn2 hn1.one FW DY;have EU:(Obj.row T xs).has L:=by simp only[Obj.has];omega
   refine done _ ⟨L.b,some ⟨L.b,0,none⟩,k+ys.length,L.cap,T.size⟩ (some L.b) (Tg _ _ _) (λb e=>⟨EU,by cases e;rfl⟩) (λlo hx=>⟨rfl,AU,hal.symm,e',_,(ho1.append hn1).mono hx,.inr ⟨_,rfl,ZKV _ _ _ _ _ _ CA,by rw[hal];exact FW,Kr,PX,?_,?_⟩⟩) (λ_=>.inl ⟨EU,rfl⟩) (by rw[HI];exact hrun);·simp only[ZII,ZGI,ZGP,ZG1,ZGn];omega
   ·have NU:cur.toList.take (k*T.size)=olds:=by
     obtain⟨_,_,Km⟩:True∧True∧cs.take (k*T.size)=cur.toList.take (k*T.size):=by refine⟨trivial,trivial,?_⟩;rw[←Kt,ZKb];congr 1;have :=ZHB T.size hk;omega
     rw[←Km];rcases ho2.2 with⟨a,cap,hq,Tr⟩|⟨s,hq,_⟩
     ·rw[HI]at hq;cases hq;apply ZHX;intro j;have X3:=h9.length;have T6:=ZHB T.size hk;rw[Dv]at C2;by_cases hj:j<k*T.size
      ·have IK:0<k:=ZJ0 λe=>by rw[e]at hj;simp at hj
       obtain⟨ad,had,hc⟩:=Tr IK;cases had;have lS:j<olds.length:=by omega
       have :=hc j olds[j] (ZGU lS);rw[ZHd,KU CA,ZGu]at this;rw[ZGg,ZGE hj,←Kt,ZGg,ZGE (by omega),ZGU lS];simpa using this
      ·rw[ZHL (by simp;omega),ZHL (by omega)]
     ·rw[HI]at hq;cases hq
    rw[hsT,NU];exact tN rfl _ _ (by rw[hal,C2,Dv,IM,ZIP])
theorem WB(hτ:BQ P τ){ts tx ty e:TypeId}{info:TypeInfo}{z:Value}{bytes:Nat}{T:Ty}{ys:List T.den}{news:List Value}{d:Value}(ht:P.underlying ts=some (.slice e))(hi:P.info? e=some info)(hz:info.zero=some z)(hsT:info.size=T.size)(hb:info.bytes=bytes)(hzz:z.cells.size=T.size)(AU:0<T.size)(hn1:A8 E.w E.S T ys news)(hn2:OU P tx info z E.w ys.length news d)(g:AE P E objs){l k:Nat}{xs:List T.den}{L:Ai}(Al:AB l objs=some (.row T xs))(hL:E.loc l=some L)(hat:Ay P E L (.row T xs))(hk:k≤xs.length)(h1:(k+ys.length)*bytes≤140737488355328)(h2:k+ys.length≤9223372036854775807){p:Option Prop}{c0:Value}(Be:L.Part 0 k c0):Bl P (Builtin.append_ #[ts,tx] ty #[c0,d]) E objs ⟨p,.osl l,some (l,.row T (xs.take k++ys),true)⟩:=by obtain⟨w,K,row,hw,DN,BW,EU,hrun⟩:=QA (ty:=ty) hτ ht hi hz hsT hb hzz AU hn1 hn2 g Al hL hat hk h1 h2 Be;have hp:=AE.put g (mv:=true) (o':=.row T (xs.take k++ys)) (L':=K) Al hL hw DN (λh=>by cases h) (BW _) EU;exact⟨_,K.v,hrun,hp.1,hp.2,.osl (CJ _ _ _ _)⟩
theorem aZ{l:Nat}{L:Ai}{T:Ty}{xs ys:List T.den}{vs:List Value}{lo:Nat}(g:AE P E objs)(hl:AB l objs=some (.row T xs))(hL:E.loc l=some L)(hat:Ay P E L (.row T xs))(EK:lo+ys.length≤xs.length)(hne:0<ys.length∨L.cap≠0)(hv:A8 E.w E.S T ys vs):∃w,(storeCells ⟨L.b,lo*T.size,none⟩ vs).run P E.w=.ok () w∧AE P (E.setL w l L) (edit objs (some (l,.row T (xs.take lo++ys++xs.drop (lo+ys.length)),false)))∧BL E objs (E.setL w l L) (edit objs (some (l,.row T (xs.take lo++ys++xs.drop (lo+ys.length)),false))) []:=by
 obtain⟨ER,AU,hlen,e,cs,h9,Bx⟩:=id hat;rcases Bx with⟨Be,rfl⟩|⟨cur,Bk,CA,KH,Kr,PX,Ks,Kt⟩
 ·simp only[ZGS]at EK;rcases hne with h|h;·omega
  ·exact absurd Be h
 ·have Nv:=hv.length;have hcl:=h9.length;have hmul:(lo+ys.length)*T.size≤xs.length*T.size:=ZHB _ EK;have ZBb:xs.length*T.size≤L.cap*T.size:=ZHB _ KH;have ZA1:(lo+ys.length)*T.size=lo*T.size+ys.length*T.size:=ZIP _ _ _;have DY:lo*T.size+vs.length≤cur.size:=by rw[Nv,Ks];omega
  have BO:=ZI9 P L.b (lo*T.size) e vs 0 cur E.w CA (by simpa using DY) hv.one;simp only[ZHw]at BO;have Yd:(xs.take lo++ys++xs.drop (lo+ys.length)).length=xs.length:=by simp;omega
  have hcells:A8 E.w E.S T (xs.take lo++ys++xs.drop (lo+ys.length)) (cs.take (lo*T.size)++vs++cs.drop ((lo+ys.length)*T.size)):=((h9.take lo).append hv).append (h9.drop _);have BW:=aY (mv:=false) (ys:=xs.take lo++ys++xs.drop (lo+ys.length)) (cur':=cur.toList.take (lo*T.size)++vs++cur.toList.drop (lo*T.size+vs.length)) g hl hL hat Kr (by omega) (λ_=>Yd) (by
   rw[Yd];refine Eq.mp ?_ hcells;congr 1;rw[←Kt,ZA1];apply ZHX;intro j;have DD:=I9 (A:=cur.toList) (vs:=vs) (o:=lo*T.size) (by simpa using DY) j;have En:=I9 (A:=cur.toList.take (xs.length*T.size)) (vs:=vs) (o:=lo*T.size) (by rw[Nv];simp;omega) j;rw[Nv]at DD En;rw[En,ZGg,ZGg,Nv,DD];repeat' split
   all_goals first|rfl|omega) (by simp only[ZGI,ZGP,ZG1,ZGn];omega);have hLL:({L with len:=(xs.take lo++ys++xs.drop (lo+ys.length)).length}:Ai)=L:=by rw[Yd,←hlen]
  rw[hLL]at BW;exact⟨_,BO,BW.1,BW.2⟩
theorem wW(hτ:BQ P τ){ts tx ty e:TypeId}{dx:TypeDesc}{info:TypeInfo}{T:Ty}{ys:List T.den}{news:List Value}{d:Value}(Bf:P.underlying tx=some dx)(B2:(∃ex,dx=.slice ex)∨dx=.string)(ht:P.underlying ts=some (.slice e))(hi:P.info? e=some info)(hsT:info.size=T.size)(hn1:A8 E.w E.S T ys news)(hn2:Ef E.w info.size ys.length news d)(g:AE P E objs){l k:Nat}{xs:List T.den}{L:Ai}(Al:AB l objs=some (.row T xs))(hL:E.loc l=some L)(hat:Ay P E L (.row T xs))(hk:k+ys.length≤xs.length){p:Option Prop}{c0:Value}(Be:L.Part 0 k c0):Bl P (Builtin.append_ #[ts,tx] ty #[c0,d]) E objs ⟨p,.osp l 0 (k+ys.length),some (l,.row T (xs.take k++ys++xs.drop (k+ys.length)),false)⟩:=by
 obtain⟨a0,IF,JO⟩:=Be;obtain⟨ER,AU,hlen,e',cs,h9,Bx⟩:=id hat;rcases Bx with⟨JR,rfl⟩|⟨cur,Bk,CA,KH,Kr,PX,Ks,Kt⟩
 ·simp only[ZGS]at hk;have IK:k=0:=by omega
  have :ys=[]:=ZGY (by omega);subst IK this;have HI:c0=.slice a0 0 0:=by rw[IF,JR]
  have hrun:=WA (P:=P) (ty:=ty) Bf B2 ht hi E.w (a:=a0) (news:=news) (c:=d) (by simpa using hn2);have hp:=AE.put g (mv:=false) (L':=L) (o':=.row T []) (w:=E.w) (row:=none) Al hL ⟨rfl,rfl,rfl,ZGR _,λ_ _ _=>rfl⟩ (λb hb=>by cases hb) (λ_=>rfl) (by
   refine hat.keep (⟨λb hb=>⟨hb,rfl⟩,λj K _ hK=>?_⟩:CK E (E.setL E.w l L) []) λ_=>rfl;by_cases e:j=l;·subst e;rw[hL]at hK;cases hK;exact CJ _ _ _ _
   ·rw[B4 _ _ _ e];exact hK) λhh=>.inl ⟨hh,rfl⟩;exact⟨E.setL E.w l L,.slice a0 0 0,by rw[HI];exact hrun,by simpa using hp.1,by simpa using hp.2,.osp (CJ _ _ _ _) ⟨a0,by simp[JR],λh=>absurd JR h⟩⟩
 ·have IM:=hn1.length;have HI:c0=.slice (some ⟨L.b,0,none⟩) k L.cap:=by rw[IF,JO (by omega)];simp[Bk,ZHd]
  have DY:k*info.size+news.length≤cur.size:=by rw[hsT,IM,Ks,←ZIP];exact ZHB _ (by omega)
  have hrun:=dQ (P:=P) (ty:=ty) Bf B2 ht hi E.w CA hn2 hn1.one (by omega:k+ys.length≤L.cap) DY;obtain⟨w,BO,g1,g2⟩:=aZ (lo:=k) g Al hL hat hk (.inr (by omega)) hn1;have Y1:=ZI9 P L.b (k*T.size) e' news 0 cur E.w CA (by rw[←hsT];simpa using DY) hn1.one;simp only[ZHw]at Y1;rw[BO]at Y1;cases Y1;refine⟨_,.slice (some ⟨L.b,0,none⟩) (k+ys.length) L.cap,?_,g1,g2,.osp (CJ _ _ _ _) ⟨some ⟨L.b,0,none⟩,by simp,λ_=>by simp[Bk,ZHd]⟩⟩;rw[HI,hrun,hsT];rfl
theorem uZ(z:Array Value)(n:Nat)(c:Array Value)(hz:0<z.size):(Builtin.zeroCells z n++c).toList.take (n*z.size)=(List.replicate n z.toList).flatten:=by
 have h:=Zb (z:=z) (n:=n) (c:=n) hz (ZGR _);have e:madeCells z (n*z.size)=Builtin.zeroCells z n:=rfl;have hs:(Builtin.zeroCells z n).toList.length=n*z.size:=by rw[ZGn,ZIf]
 rw[e,ZHt (by omega)]at h;rw[ZJn,←hs,ZJt,h]
theorem uY{tx:TypeId}{i:TypeInfo}{z:Value}{w w0:World}{S:Nat→Prop}{T:Ty}{m:Int}{k:Nat}(Bf:P.underlying tx=some (.int .i64))(h0:0≤m)(h1:(k+m.toNat)*i.bytes≤140737488355328)(h2:k+m.toNat≤9223372036854775807)(hzz:z.cells.size=T.size)(AU:0<T.size)(hc:BZ w S T T.dflt z.cells.toList):A8 w S T (List.replicate m.toNat T.dflt) (Builtin.zeroCells z.cells m.toNat).toList∧OU P tx i z w0 (List.replicate m.toNat T.dflt).length (Builtin.zeroCells z.cells m.toNat).toList (.int .i64 m):=by
 have hr:=Pp hc m.toNat;have ht:=uZ z.cells m.toNat #[] (by omega);rw[Array.append_empty,ZHt (by rw[ZGn,ZIf];exact ZGR _)]at ht;rw[←ht]at hr;refine⟨hr,.inr ⟨Bf,m,rfl,h0,(ZGj ..).symm,?_,by omega,by rw[ZGj]⟩⟩;have hm:((m.toNat:Nat):Int)=m:=by omega
 have :=ZGd (ZHB i.bytes (Nat.le_add_left m.toNat k)) h1;rw[←hm,←ZJg];omega
theorem zV(hτ:BQ P τ){ts tx ty:TypeId}{s x:V}{out:Av}(h:Oi τ os n ts tx s x=some out)(hs:DL os objs)(ho:BM out.ob)(g:AE P E objs)(hf:E.loc n=none){c d:Value}(rs:AC P E s c)(rx:AC P E x d):Bl P (Builtin.append_ #[ts,tx] ty #[c,d]) E objs out:=by
 unfold Oi at h;split at h
 ·rename_i e sz by_ zero co BX;have ht:P.underlying ts=some (.slice e):=(hτ ts _ BX).kind;split at h
  ·rename_i k size bytes zero' T hei;have hei:=hτ e _ hei;obtain⟨hTs,AU,B6⟩:=hei.code T rfl;have hTs:T.size=size:=hTs;have AU:0<T.size:=by rw[hTs];exact AU
   obtain⟨info,z,hi,Am,hb,hz,DO,Da⟩:=hei.info;have Am:info.size=size:=Am;have hb:info.bytes=bytes:=hb;have Da:z.cells.size=size:=Da;have hzz:z.cells.size=T.size:=by rw[Da,hTs]
   have hsT:info.size=T.size:=by rw[Am,hTs]
   split at h
   ·rename_i he;obtain⟨dx,Bf,B2⟩:∃dx,P.underlying tx=some dx∧((∃ex,dx=.slice ex)∨dx=.string):=by
     unfold bR at he;split at he;·rename_i h;exact⟨_,(hτ tx _ h).kind,.inl ⟨_,rfl⟩⟩
     ·rename_i h;exact⟨_,(hτ tx _ h).kind,.inr rfl⟩
     ·cases he
    split at h
    ·rename_i ys p FY;have src:BM p→∃cs,A8 E.w E.S T ys cs∧Ef E.w info.size ys.length cs d:=λhp=>by rw[hsT];exact tB FY hs hp g rx
     have conj_inv:∀{q:Prop},Im q p→BM p∧q:=λ{q}h=>by cases p with|none=>exact⟨trivial,h⟩|some r=>exact h
     split at h;·cases h;obtain⟨hp,h1,h2⟩:=conj_inv ho;obtain⟨news,hn1,hn2⟩:=src hp;have IM:=hn1.length;cases rs with|nils a=>
      by_cases hm:ys.length=0;·have :ys=[]:=ZGY hm;subst this;have hrun:=WA (P:=P) (ty:=ty) Bf B2 ht hi E.w (a:=a) (news:=news) (c:=d) (by simpa using hn2);have hp:=AE.push g (w:=E.w) (L:=⟨0,a,0,0,T.size⟩) (o:=.row T []) hf ⟨rfl,rfl,rfl,ZGR _,λ_ _ _=>rfl⟩ ⟨rfl,AU,rfl,e,[],rfl,.inl ⟨rfl,rfl⟩⟩ λhh=>absurd rfl hh;exact⟨E.setL E.w n ⟨0,a,0,0,T.size⟩,_,hrun,hp.1,hp.2,.osl (CJ _ _ _ _)⟩
      ·have hrun:=dR (P:=P) (ty:=ty) Bf B2 ht hi hz E.w (base:=a) (n:=0) (cap:=0) (olds:=[]) (by cases a<;>simp[Builtin.firstCells,loadCells,loadCellsFrom]) hn2 (by omega) (by omega) (ZKc (by omega) (by rw[ZGu,hb];exact h1));simp only[ZGu]at hrun;have FW:=grownCap_ge E.w ys.length 0 e;have GF:=ZJ1 E.w ys.length 0 e (by unfold maxLen;omega);obtain⟨E',hw,g1,g2,g3⟩:=Rx (cap:=grownCap E.w ys.length 0 e) g hf (w:=E.w.drew.alloc (.cells (([]:List Value).toArray++news.toArray++Builtin.zeroCells z.cells (grownCap E.w ys.length 0 e-ys.length)) e)) ⟨rfl,rfl,rfl,by simp,λj hj _=>ZKd E.w.drew _ j hj⟩ (ZIG E.w.drew _) AU FW GF (by simp only[ZJS,ZII,ZGS,IM,ZIf,hzz,ZGu,←ZIP];congr 1;omega) hn1 (by simp only[ZJn,ZG8];rw[←IM];exact ZJt);exact⟨E',_,by rw[hw];exact hrun,g1,g2,.osl g3⟩
     ·rename_i l;split at h
      ·rename_i t xs hcs;split at h;·rename_i hT';subst hT';cases h;obtain⟨hp,h1,h2⟩:=conj_inv ho;obtain⟨news,hn1,hn2⟩:=src hp;obtain⟨L,hL,Al,hat⟩:=g.get hs hcs;obtain⟨K,hK,rfl⟩:=GQ rs;rw[hL]at hK;cases hK;have :=WB (ty:=ty) (p:=some (Im ((xs.length+ys.length)*bytes≤140737488355328∧xs.length+ys.length≤9223372036854775807) p)) hτ ht hi hz hsT hb hzz AU hn1 (.inl ⟨dx,Bf,B2,hn2⟩) g Al hL hat (ZGR _) h1 h2 (N9 hat);rw[ZGN]at this;exact this
       ·cases h
      ·cases h
     ·rename_i l k;split at h
      ·rename_i t xs hcs;split at h
       ·rename_i hT';subst hT';split at h;·cases h;obtain⟨hp,hk⟩:=conj_inv ho;obtain⟨news,hn1,hn2⟩:=src hp;obtain⟨L,hL,Al,hat⟩:=g.get hs hcs;obtain⟨K,hK,Fz⟩:=KJ rs;rw[hL]at hK;cases hK;exact wW (ty:=ty) hτ Bf B2 ht hi hsT hn1 hn2 g Al hL hat hk Fz
        cases h;obtain⟨hk,ho⟩:_∧_:=ho;obtain⟨hp,h1,h2⟩:=conj_inv ho;obtain⟨news,hn1,hn2⟩:=src hp;obtain⟨L,hL,Al,hat⟩:=g.get hs hcs;obtain⟨K,hK,Fz⟩:=KJ rs;rw[hL]at hK;cases hK;exact WB (ty:=ty) hτ ht hi hz hsT hb hzz AU hn1 (.inl ⟨dx,Bf,B2,hn2⟩) g Al hL hat hk h1 h2 Fz
       ·cases h
      ·cases h
     ·cases h
    ·cases h
   ·split at h
    ·rename_i Bf;have Bf:P.underlying tx=some (.int .i64):=(hτ tx _ Bf).kind;split at h
     ·rename_i m0;obtain⟨m,PK⟩:∃m:Int,m=m0:=⟨m0,rfl⟩;subst PK;have hd:=rx.int_inv;subst hd;split at h;·cases h;obtain⟨h0,h1,h2⟩:0≤m∧m*bytes≤140737488355328∧m≤9223372036854775807:=ho;cases rs with|nils a=>
       have hrun:=dS (P:=P) (ty:=ty) Bf ht hi hz E.w (a:=a) h0 (by rw[hb];exact h1) h2;split at hrun;·rename_i hm;subst hm;have hp:=AE.push g (w:=E.w) (L:=⟨0,a,0,0,T.size⟩) (o:=.row T []) hf ⟨rfl,rfl,rfl,ZGR _,λ_ _ _=>rfl⟩ ⟨rfl,AU,rfl,e,[],rfl,.inl ⟨rfl,rfl⟩⟩ λhh=>absurd rfl hh;exact⟨E.setL E.w n ⟨0,a,0,0,T.size⟩,_,hrun,hp.1,hp.2,.osl (CJ _ _ _ _)⟩
       ·rename_i hm;have FW:=grownCap_ge E.w m.toNat 0 e;have GF:=ZJ1 E.w m.toNat 0 e (by unfold maxLen;omega);have PN:¬m.toNat*info.size=0:=by rw[hsT];have :=Nat.mul_pos (show 0<m.toNat by omega) AU;omega
        rw[ZGA PN]at hrun;obtain⟨E',hw,g1,g2,g3⟩:=Rx (xs:=List.replicate m.toNat T.dflt) (cap:=grownCap E.w m.toNat 0 e) g hf (w:=E.w.drew.alloc (.cells (Builtin.zeroCells z.cells m.toNat++Builtin.zeroCells z.cells (grownCap E.w m.toNat 0 e-m.toNat)) e)) ⟨rfl,rfl,rfl,by simp,λj hj _=>ZKd E.w.drew _ j hj⟩ (ZIG E.w.drew _) AU (by simpa using FW) GF (by simp only[ZJS,ZIf,hzz,←ZIP];congr 1;omega) (Pp (B6 E.w E.S) m.toNat) (by rw[ZGj,←hzz,uZ _ _ _ (by omega),←DO]);refine⟨E',_,by rw[hw];exact hrun,g1,g2,?_⟩;rw[ZGj]at g3;exact .osl g3
      ·rename_i l;split at h
       ·rename_i t xs hcs;split at h;·rename_i hT';subst hT';cases h;obtain⟨h0,h1,h2⟩:0≤m∧(xs.length+m.toNat)*bytes≤140737488355328∧xs.length+m.toNat≤9223372036854775807:=ho;obtain⟨L,hL,Al,hat⟩:=g.get hs hcs;obtain⟨K,hK,rfl⟩:=GQ rs;rw[hL]at hK;cases hK;obtain⟨hn1,hn2⟩:=uY Bf h0 (by rw[hb];exact h1) h2 hzz AU (DO▸B6 E.w E.S) (w0:=E.w);have :=WB (ty:=ty) (p:=some (0≤m∧(xs.length+m.toNat)*bytes≤140737488355328∧xs.length+m.toNat≤9223372036854775807)) hτ ht hi hz hsT hb hzz AU hn1 hn2 g Al hL hat (ZGR _) (by rw[ZGj];exact h1) (by rw[ZGj];exact h2) (N9 hat);rw[ZGN]at this;exact this
        ·cases h
       ·cases h
      ·cases h
     ·cases h
    ·cases h
  ·cases h
 ·cases h
theorem zU(hτ:BQ P τ){ts tx ty:TypeId}{s x:V}{ob:Option Prop}{v:V}{l:Nat}{T:Ty}{zs:List T.den}(h:Oi τ os n ts tx s x=some ⟨ob,v,some (l,.row T zs,true)⟩)(hs:DL os objs)(ho:BM ob)(g:AE P E objs){c d:Value}(rs:AC P E s c)(rx:AC P E x d):v=.osl l∧∃L xs,AB l objs=some (.row T xs)∧E.loc l=some L∧Sg P (Builtin.append_ #[ts,tx] ty #[c,d]) E L T xs zs:=by
 unfold Oi at h;split at h
 ·rename_i e sz by_ zero co BX;have ht:P.underlying ts=some (.slice e):=(hτ ts _ BX).kind;split at h
  ·rename_i k size bytes zero' T hei;have hei:=hτ e _ hei;obtain⟨hTs,AU,B6⟩:=hei.code T rfl;have hTs:T.size=size:=hTs;have AU:0<T.size:=by rw[hTs];exact AU
   obtain⟨info,z,hi,Am,hb,hz,DO,Da⟩:=hei.info;have Am:info.size=size:=Am;have hb:info.bytes=bytes:=hb;have Da:z.cells.size=size:=Da;have hzz:z.cells.size=T.size:=by rw[Da,hTs]
   have hsT:info.size=T.size:=by rw[Am,hTs]
   split at h
   ·rename_i he;obtain⟨dx,Bf,B2⟩:∃dx,P.underlying tx=some dx∧((∃ex,dx=.slice ex)∨dx=.string):=by
     unfold bR at he;split at he;·rename_i h;exact⟨_,(hτ tx _ h).kind,.inl ⟨_,rfl⟩⟩
     ·rename_i h;exact⟨_,(hτ tx _ h).kind,.inr rfl⟩
     ·cases he
    split at h
    ·rename_i ys p FY;have src:BM p→∃cs,A8 E.w E.S T ys cs∧Ef E.w info.size ys.length cs d:=λhp=>by rw[hsT];exact tB FY hs hp g rx
     have conj_inv:∀{q:Prop},Im q p→BM p∧q:=λ{q}h=>by cases p with|none=>exact⟨trivial,h⟩|some r=>exact h
     split at h;·cases h
     ·rename_i l;split at h
      ·rename_i t xs hcs;split at h;·rename_i hT';subst hT';cases h;obtain⟨hp,h1,h2⟩:=conj_inv ho;obtain⟨news,hn1,hn2⟩:=src hp;obtain⟨L,hL,Al,hat⟩:=g.get hs hcs;obtain⟨K,hK,rfl⟩:=GQ rs;rw[hL]at hK;cases hK;have :=QA (ty:=ty) hτ ht hi hz hsT hb hzz AU hn1 (.inl ⟨dx,Bf,B2,hn2⟩) g Al hL hat (ZGR _) h1 h2 (N9 hat);rw[ZGN]at this;exact⟨rfl,L,xs,Al,hL,this⟩
       ·cases h
      ·cases h
     ·rename_i l k;split at h
      ·rename_i t xs hcs;split at h
       ·rename_i hT';subst hT';split at h;·cases h
        cases h;obtain⟨hk,ho⟩:_∧_:=ho;obtain⟨hp,h1,h2⟩:=conj_inv ho;obtain⟨news,hn1,hn2⟩:=src hp;obtain⟨L,hL,Al,hat⟩:=g.get hs hcs;obtain⟨K,hK,Fz⟩:=KJ rs;rw[hL]at hK;cases hK;exact⟨rfl,L,xs,Al,hL,QA (ty:=ty) hτ ht hi hz hsT hb hzz AU hn1 (.inl ⟨dx,Bf,B2,hn2⟩) g Al hL hat hk h1 h2 Fz⟩
       ·cases h
      ·cases h
     ·cases h
    ·cases h
   ·split at h
    ·rename_i Bf;have Bf:P.underlying tx=some (.int .i64):=(hτ tx _ Bf).kind;split at h
     ·rename_i m0;obtain⟨m,PK⟩:∃m:Int,m=m0:=⟨m0,rfl⟩;subst PK;have hd:=rx.int_inv;subst hd;split at h;·cases h
      ·rename_i l;split at h
       ·rename_i t xs hcs;split at h;·rename_i hT';subst hT';cases h;obtain⟨h0,h1,h2⟩:0≤m∧(xs.length+m.toNat)*bytes≤140737488355328∧xs.length+m.toNat≤9223372036854775807:=ho;obtain⟨L,hL,Al,hat⟩:=g.get hs hcs;obtain⟨K,hK,rfl⟩:=GQ rs;rw[hL]at hK;cases hK;obtain⟨hn1,hn2⟩:=uY Bf h0 (by rw[hb];exact h1) h2 hzz AU (DO▸B6 E.w E.S) (w0:=E.w);have :=QA (ty:=ty) hτ ht hi hz hsT hb hzz AU hn1 hn2 g Al hL hat (ZGR _) (by rw[ZGj];exact h1) (by rw[ZGj];exact h2) (N9 hat);rw[ZGN]at this;exact⟨rfl,L,xs,Al,hL,this⟩
        ·cases h
       ·cases h
      ·cases h
     ·cases h
    ·cases h
  ·cases h
 ·cases h
end
end Go.Proofs.YtgpdnmfpgkkgcaaGreatDoor
