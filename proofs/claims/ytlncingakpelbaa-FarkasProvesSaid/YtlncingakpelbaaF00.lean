/- Part of a proof that the law FarkasProves of the program holds for every input: how abstract states follow the program. No conditions. -/
import Derived.Below
import Derived.IntWalk
import Derived.KernelRfl
import Derived.Laws.AppendOwn
import Derived.Laws.MakeOwn
import Derived.Orders
namespace Go.Proofs.Ytlncingakpelbaa
open Go

/-! ## Codes of data types,abstract values -/
inductive Ty where
  | int (k : IntKind) | bool | str | sl (t : Ty) | pair (a b : Ty) | unit
  deriving DecidableEq

@[reducible] def Ty.den : Ty → Type
  | .int _ => Int
  | .bool => Bool
  | .str => ByteArray
  | .sl t => List t.den
  | .pair a b => a.den × b.den
  | .unit => Unit

def Ty.size : Ty → Nat
  | .int _ | .bool | .str | .sl _ => 1
  | .pair a b => a.size + b.size
  | .unit => 0

def Ty.dflt : (t : Ty) → t.den
  | .int _ => (0 : Int)
  | .bool => false
  | .str => ByteArray.empty
  | .sl _ => []
  | .pair a b => (a.dflt,b.dflt)
  | .unit => ()

inductive V where
  | any
  | d (t : Ty) (x : t.den)
  | nilp | nilf | nils | nilm
  | fn (f : Fn) (fst caps : List V)
  | agg (cs : List V)
  | tup (vs : List V)
  | er (cs : List V)
  | ref (l ver off : Nat)
  | rref (l ver i off : Nat)
  | osl (l ver : Nat)
  | osp (l ver n : Nat)
  | map (l : Nat)
  | when (b : Bool) (v : V)
  | opt (b : Bool) (v : V)

/-- The cells of a datum,a leaf a cell. -/
def flat : (t : Ty) → t.den → List V
  | .int k,x => [.d (.int k) x]
  | .bool,x => [.d .bool x]
  | .str,x => [.d .str x]
  | .sl t,x => [.d (.sl t) x]
  | .pair a b,x => flat a x.1 ++ flat b x.2
  | .unit,_ => []

theorem flat_length : ∀ (t : Ty) (x : t.den),(flat t x).length = t.size
  | .int _,_ | .bool,_ | .str,_ | .sl _,_ | .unit,_ => rfl
  | .pair a b,x => by simp only [flat,List.length_append,flat_length a,flat_length b,Ty.size]

/-- How a datum lies in memory: the cells that hold it;what they point at lies in the stable blocks S. -/
def Cells (w : World) (S : Nat → Prop) : (t : Ty) → t.den → List Value → Prop
  | .int k,n,cs => cs = [.int k n]
  | .bool,b,cs => cs = [.bool b]
  | .str,s,cs => cs = [.string s]
  | .sl t, l, cs => ∃ a c, cs = [.slice a (List.length (α := t.den) l) c] ∧ (List.length (α := t.den) l ≤ c ∧ c ≤ maxLen) ∧ (l ≠ ([] : List t.den) → ∃ b off, a = some ⟨b, off, none⟩ ∧ S b ∧
      ∀ i (x : t.den),(l : List t.den)[i]? = some x → ∃ cs',Cells w S t x cs' ∧ ∀ j u,cs'[j]? = some u → w.cell? ⟨b,off + i * t.size + j,none⟩ = some u)
  | .pair a b,x,cs => ∃ c1 c2,cs = c1 ++ c2 ∧ Cells w S a x.1 c1 ∧ Cells w S b x.2 c2
  | .unit,_,cs => cs = []

theorem Cells.length {w : World} {S : Nat → Prop} : ∀ {t : Ty} {x : t.den} {cs : List Value},Cells w S t x cs → cs.length = t.size
  | .int _,_,_,h => by rw [show _ = _ from h];rfl
  | .bool,_,_,h => by rw [show _ = _ from h];rfl
  | .str,_,_,h => by rw [show _ = _ from h];rfl
  | .sl _,_,_,⟨_,_,h,_⟩ => by rw [h];rfl
  | .pair a b,_,_,⟨c1,c2,h,h1,h2⟩ => by rw [h,List.length_append,h1.length,h2.length];rfl
  | .unit,_,_,h => by rw [show _ = _ from h];rfl

theorem Cells.one {w : World} {S : Nat → Prop} : ∀ {t : Ty} {x : t.den} {cs : List Value},Cells w S t x cs → ∀ u ∈ cs,u.oneCell' = true
  | .int _,_,_,h => by rw [show _ = _ from h];simp [Value.oneCell']
  | .bool,_,_,h => by rw [show _ = _ from h];simp [Value.oneCell']
  | .str,_,_,h => by rw [show _ = _ from h];simp [Value.oneCell']
  | .sl _,_,_,⟨_,_,h,_⟩ => by rw [h];simp [Value.oneCell']
  | .pair a b,_,_,⟨c1,c2,h,h1,h2⟩ => by
    rw [h];intro u hu
    rcases List.mem_append.1 hu with hu | hu
    · exact h1.one u hu
    · exact h2.one u hu
  | .unit,_,_,h => by rw [show _ = _ from h];simp

theorem cell_of_heap {w w' : World} {b : Nat} (h : w'.heap[b]? = w.heap[b]?) (o : Nat) : w'.cell? ⟨b,o,none⟩ = w.cell? ⟨b,o,none⟩ := by
  simp only [World.cell?,h]

theorem Cells.mono {w w' : World} {S S' : Nat → Prop} (hS : ∀ b, S b → S' b ∧ w'.heap[b]? = w.heap[b]?) :
    ∀ {t : Ty} {x : t.den} {cs : List Value},Cells w S t x cs → Cells w' S' t x cs
  | .int _,_,_,h => h
  | .bool,_,_,h => h
  | .str,_,_,h => h
  | .sl t,l,_,⟨a,c,h,hc,hl⟩ => ⟨a,c,h,hc,fun hne => by
      obtain ⟨b,off,ha,hb,hx⟩ := hl hne
      refine ⟨b,off,ha,(hS b hb).1,fun i x hi => ?_⟩
      obtain ⟨cs',h1,h2⟩ := hx i x hi
      exact ⟨cs',h1.mono hS,fun j u hj => (cell_of_heap (hS b hb).2 _).trans (h2 j u hj)⟩⟩
  | .pair _ _,_,_,⟨c1,c2,h,h1,h2⟩ => ⟨c1,c2,h,h1.mono hS,h2.mono hS⟩
  | .unit,_,_,h => h

/-! ## Own objects and the environment -/
structure Loc where
  b : Nat
  v : Value
  esz : Nat

structure Env where
  w : World
  S : Nat → Prop
  len : Nat
  loc : Nat → Loc
  ver : Nat → Option Nat

/-- The slice value of the first elements of an own row. -/
def partSlice (v : Value) (n : Nat) : Value :=
  match v with
  | .slice a _ cap => .slice a n cap
  | v => v

inductive Rep (E : Env) : V → Value → Prop where
  | any (v) : Rep E .any v
  | d {t x v} : Cells E.w E.S t x [v] → Rep E (.d t x) v
  | nilp : Rep E .nilp (.pointer none)
  | nilf : Rep E .nilf .nilFunc
  | nils (a) : Rep E .nils (.slice a 0 0)
  | nilm : Rep E .nilm (.map none)
  | fn {f fs cs} {a b : Array Value} : a.size = fs.length → b.size = cs.length → (∀ j, j < fs.length → Rep E (fs.getD j .any) (a.getD j undef)) →
      (∀ j,j < cs.length → Rep E (cs.getD j .any) (b.getD j undef)) → Rep E (.fn f fs cs) (.func f a b)
  | agg {cs} {a : Array Value} : a.size = cs.length → (∀ j,j < cs.length → Rep E (cs.getD j .any) (a.getD j undef)) → Rep E (.agg cs) (.agg a)
  | tup {cs} {a : Array Value} : a.size = cs.length → (∀ j,j < cs.length → Rep E (cs.getD j .any) (a.getD j undef)) → Rep E (.tup cs) (.tuple a)
  | er {cs} {b off} (c : Nat → Value) : E.S b → (∀ j, j < cs.length → E.w.cell? ⟨b, off + j, none⟩ = some (c j)) → (∀ j, j < cs.length → Rep E (cs.getD j .any) (c j)) →
      Rep E (.er cs) (.pointer (some ⟨b,off,none⟩))
  | ref {l ver off v} : v.oneCell' = true → l < E.len → (∀ u,E.ver l = some u → ver ≤ u ∧ (ver = u → v = .pointer (some ⟨(E.loc l).b,off,none⟩))) → Rep E (.ref l ver off) v
  | rref {l ver i off v} : v.oneCell' = true → l < E.len → (∀ u,E.ver l = some u → ver ≤ u ∧ (ver = u → v = .pointer (some ⟨(E.loc l).b,i * (E.loc l).esz + off,none⟩))) → Rep E (.rref l ver i off) v
  | osl {l ver v} : v.oneCell' = true → l < E.len → (∀ u,E.ver l = some u → ver ≤ u ∧ (ver = u → v = (E.loc l).v)) → Rep E (.osl l ver) v
  | osp {l ver n v} : v.oneCell' = true → l < E.len → (∀ u,E.ver l = some u → ver ≤ u ∧ (ver = u → v = partSlice (E.loc l).v n)) → Rep E (.osp l ver n) v
  | map {l v} : v.oneCell' = true → l < E.len → (∀ u,E.ver l = some u → (0 = u → v = .map (some (E.loc l).b))) → Rep E (.map l) v
  | when {b v x} : (b = true → Rep E v x) → (b = false → x = undef) → Rep E (.when b v) x
  | opt {b v x} : (b = true → Rep E v x) → (b = false → x = .pointer none) → Rep E (.opt b v) x

/-- E' comes behind E: what was stable is stable and unchanged;an own object's version does not go down,and its place stands while its version stands. -/
structure Ext (E E' : Env) : Prop where
  S : ∀ b,E.S b → E'.S b ∧ E'.w.heap[b]? = E.w.heap[b]?
  len : E.len ≤ E'.len
  ver : ∀ l,l < E.len → ∀ u',E'.ver l = some u' → ∃ u,E.ver l = some u ∧ u ≤ u' ∧ (u = u' → E'.loc l = E.loc l)

theorem Ext.refl (E : Env) : Ext E E := ⟨fun _ h => ⟨h,rfl⟩,Nat.le_refl _,fun _ _ u h => ⟨u,h,Nat.le_refl _,fun _ => rfl⟩⟩
theorem Ext.trans {A B C : Env} (h : Ext A B) (k : Ext B C) : Ext A C :=
  ⟨fun b hb => ⟨(k.S b (h.S b hb).1).1,(k.S b (h.S b hb).1).2.trans (h.S b hb).2⟩,Nat.le_trans h.len k.len,fun l hl u' hu' => by
    obtain ⟨u,hu,h1,h2⟩ := k.ver l (Nat.lt_of_lt_of_le hl h.len) u' hu'
    obtain ⟨u0,hu0,h3,h4⟩ := h.ver l hl u hu
    refine ⟨u0,hu0,Nat.le_trans h3 h1,fun e => ?_⟩
    have e1 : u = u' := by omega
    have e2 : u0 = u := by omega
    rw [h2 e1,h4 e2]⟩

theorem Rep.mono {E E' : Env} (h : Ext E E') {v : V} {c : Value} (r : Rep E v c) : Rep E' v c := by
  induction r with
  | any v => exact .any v
  | d hc => exact .d (hc.mono h.S)
  | nilp => exact .nilp
  | nilf => exact .nilf
  | nils a => exact .nils a
  | nilm => exact .nilm
  | fn h1 h2 _ _ i1 i2 => exact .fn h1 h2 i1 i2
  | agg h1 _ i1 => exact .agg h1 i1
  | tup h1 _ i1 => exact .tup h1 i1
  | er c hb hc _ i => exact .er c (h.S _ hb).1 (fun j hj => (cell_of_heap (h.S _ hb).2 _).trans (hc j hj)) i
  | ref ho hl hv => exact .ref ho (Nat.lt_of_lt_of_le hl h.len) (fun u' hu' => by
      obtain ⟨u,hu,h1,h2⟩ := h.ver _ hl u' hu'
      obtain ⟨h3,h4⟩ := hv u hu
      exact ⟨Nat.le_trans h3 h1, fun e => by have e1 : u = u' := by omega
                                             rw [h2 e1];exact h4 (by omega)⟩)
  | rref ho hl hv => exact .rref ho (Nat.lt_of_lt_of_le hl h.len) (fun u' hu' => by
      obtain ⟨u,hu,h1,h2⟩ := h.ver _ hl u' hu'
      obtain ⟨h3,h4⟩ := hv u hu
      exact ⟨Nat.le_trans h3 h1, fun e => by have e1 : u = u' := by omega
                                             rw [h2 e1];exact h4 (by omega)⟩)
  | osl ho hl hv => exact .osl ho (Nat.lt_of_lt_of_le hl h.len) (fun u' hu' => by
      obtain ⟨u,hu,h1,h2⟩ := h.ver _ hl u' hu'
      obtain ⟨h3,h4⟩ := hv u hu
      exact ⟨Nat.le_trans h3 h1, fun e => by have e1 : u = u' := by omega
                                             rw [h2 e1];exact h4 (by omega)⟩)
  | map ho hl hv => exact .map ho (Nat.lt_of_lt_of_le hl h.len) (fun u' hu' e => by
      obtain ⟨u,hu,h1,h2⟩ := h.ver _ hl u' hu'
      have e1 : u = u' := by omega
      rw [h2 e1];exact hv u hu (by omega))
  | when _ h2 i1 => exact .when i1 h2
  | opt _ h2 i1 => exact .opt i1 h2
  | osp ho hl hv => exact .osp ho (Nat.lt_of_lt_of_le hl h.len) (fun u' hu' => by
      obtain ⟨u,hu,h1,h2⟩ := h.ver _ hl u' hu'
      obtain ⟨h3,h4⟩ := hv u hu
      exact ⟨Nat.le_trans h3 h1, fun e => by have e1 : u = u' := by omega
                                             rw [h2 e1];exact h4 (by omega)⟩)

inductive Obj where
  | dead
  | box (cs : List V)
  | row (t : Ty) (l : List t.den) (ver : Nat)
  | smap (t : Ty) (m : ByteArray → Option t.den)
  | imap (t : Ty) (m : Int → Option t.den)

/-- The cells of a list of data,one behind the other. -/
def CellsL (w : World) (S : Nat → Prop) (t : Ty) : List t.den → List Value → Prop
  | [],cs => cs = []
  | x :: l,cs => ∃ c1 c2,cs = c1 ++ c2 ∧ Cells w S t x c1 ∧ CellsL w S t l c2

theorem CellsL.mono {w w' : World} {S S' : Nat → Prop} {t : Ty} (hS : ∀ b, S b → S' b ∧ w'.heap[b]? = w.heap[b]?) :
    ∀ {l : List t.den} {cs : List Value},CellsL w S t l cs → CellsL w' S' t l cs
  | [],_,h => h
  | _ :: _,_,⟨c1,c2,h,h1,h2⟩ => ⟨c1,c2,h,h1.mono hS,h2.mono hS⟩

theorem CellsL.length {w : World} {S : Nat → Prop} {t : Ty} : ∀ {l : List t.den} {cs : List Value},CellsL w S t l cs → cs.length = l.length * t.size
  | [],_,h => by rw [show _ = _ from h];simp
  | _ :: l,_,⟨c1,c2,h,h1,h2⟩ => by rw [h,List.length_append,h1.length,h2.length,List.length_cons,Nat.succ_mul];omega

theorem CellsL.append {w : World} {S : Nat → Prop} {t : Ty} : ∀ {l l' : List t.den} {cs cs' : List Value},CellsL w S t l cs → CellsL w S t l' cs' → CellsL w S t (l ++ l') (cs ++ cs')
  | [],_,_,_,h,h' => by rw [show _ = _ from h];simpa using h'
  | _ :: _,_,_,_,⟨c1,c2,h,h1,h2⟩,h' => ⟨c1,c2 ++ _,by rw [h,List.append_assoc],h1,h2.append h'⟩

theorem CellsL.one {w : World} {S : Nat → Prop} {t : Ty} : ∀ {l : List t.den} {cs : List Value},CellsL w S t l cs → ∀ u ∈ cs,u.oneCell' = true
  | [],_,h => by rw [show _ = _ from h];simp
  | _ :: _,_,⟨c1,c2,h,h1,h2⟩ => by
    rw [h];intro u hu
    rcases List.mem_append.1 hu with hu | hu
    · exact h1.one u hu
    · exact h2.one u hu

theorem CellsL.get {w : World} {S : Nat → Prop} {t : Ty} : ∀ {l : List t.den} {cs : List Value}, CellsL w S t l cs → ∀ (i : Nat) (x : t.den), l[i]? = some x →
    ∃ c,Cells w S t x c ∧ ∀ j u,c[j]? = some u → cs[i * t.size + j]? = some u
  | [],_,_,i,x,h => by simp at h
  | y :: l,cs,⟨c1,c2,h,h1,h2⟩,0,x,hx => by
    simp at hx;subst hx
    refine ⟨c1,h1,fun j u hj => ?_⟩
    rw [h,Nat.zero_mul,Nat.zero_add,List.getElem?_append_left (by have := (List.getElem?_eq_some_iff.1 hj).1;exact this)]
    exact hj
  | y :: l,cs,⟨c1,c2,h,h1,h2⟩,i + 1,x,hx => by
    obtain ⟨c,hc,hj⟩ := h2.get i x (by simpa using hx)
    refine ⟨c,hc,fun j u hu => ?_⟩
    have h1l := h1.length
    rw [h,List.getElem?_append_right (by rw [h1l,Nat.succ_mul];omega)]
    rw [show (i + 1) * t.size + j - c1.length = i * t.size + j from by rw [h1l,Nat.succ_mul];omega]
    exact hj j u hu

theorem CellsL.of_get {w : World} {S : Nat → Prop} {t : Ty} : ∀ {l : List t.den} {cs : List Value}, cs.length = l.length * t.size →
    (∀ (i : Nat) (x : t.den),l[i]? = some x → ∃ c,Cells w S t x c ∧ ∀ j u,c[j]? = some u → cs[i * t.size + j]? = some u) → CellsL w S t l cs
  | [],cs,h,_ => List.eq_nil_of_length_eq_zero (by simpa using h)
  | x :: l,cs,h,hg => by
    obtain ⟨c,hc,hj⟩ := hg 0 x rfl
    have hcl := hc.length
    have hle : t.size ≤ cs.length := by rw [h,List.length_cons,Nat.succ_mul];omega
    have e : cs.take t.size = c := by
      apply List.ext_getElem?
      intro j
      rw [List.getElem?_take]
      split
      · rename_i hlt
        have := hj j c[j] (List.getElem?_eq_getElem (by omega))
        rw [List.getElem?_eq_getElem (by omega : j < c.length)]
        simpa using this
      · rw [List.getElem?_eq_none (by omega)]
    refine ⟨c,cs.drop t.size,by rw [← e,List.take_append_drop],hc,CellsL.of_get (by rw [List.length_drop,h,List.length_cons,Nat.succ_mul];omega) (fun i y hy => ?_)⟩
    obtain ⟨c',hc',hj'⟩ := hg (i + 1) y (by simpa using hy)
    refine ⟨c',hc',fun j u hu => ?_⟩
    rw [List.getElem?_drop,show t.size + (i * t.size + j) = (i + 1) * t.size + j from by rw [Nat.succ_mul];omega]
    exact hj' j u hu

theorem splice_get {α : Type} {A vs : List α} {o : Nat} (h : o + vs.length ≤ A.length) (k : Nat) :
    (A.take o ++ vs ++ A.drop (o + vs.length))[k]? = if k < o then A[k]? else if k < o + vs.length then vs[k - o]? else A[k]? := by
  have hto : (A.take o).length = o := by simp;omega
  split
  · rw [List.append_assoc,List.getElem?_append_left (by omega),List.getElem?_take,if_pos ‹_›]
  · split
    · rw [List.getElem?_append_left (by simp;omega),List.getElem?_append_right (by omega),hto]
    · rw [List.getElem?_append_right (by simp;omega),List.getElem?_drop]
      congr 1
      simp;omega

/-- A string map's entries. -/
def smapHas (w : World) (S : Nat → Prop) (t : Ty) (m : ByteArray → Option t.den) (es : Array MapEntry) : Prop :=
  (∀ e ∈ es.toList,∃ k x,e.key = .string k ∧ m k = some x ∧ Cells w S t x [e.val]) ∧
  (∀ k x,m k = some x → ∃ e ∈ es.toList,e.key = .string k)
def imapHas (w : World) (S : Nat → Prop) (t : Ty) (m : Int → Option t.den) (es : Array MapEntry) : Prop :=
  (∀ e ∈ es.toList,∃ k x,e.key = .int .i64 k ∧ m k = some x ∧ Cells w S t x [e.val]) ∧
  (∀ k x,m k = some x → ∃ e ∈ es.toList,e.key = .int .i64 k)

/-- How an own object lies in memory. -/
def ObjAt (E : Env) (l : Nat) : Obj → Prop
  | .dead => E.ver l = none
  | .box cs => E.ver l = some 0 ∧ ∃ vals t, E.w.heap[(E.loc l).b]? = some (.cells vals t (0, 0)) ∧ vals.size = cs.length ∧
      ∀ j,j < cs.length → Rep E (cs.getD j .any) (vals.getD j undef)
  | .row t xs ver => E.ver l = some ver ∧ (E.loc l).esz = t.size ∧ 0 < t.size ∧ ∃ e cs, CellsL E.w E.S t xs cs ∧
      ((∃ a,(E.loc l).v = .slice a 0 0 ∧ xs = []) ∨
       ∃ cap cur,(E.loc l).v = .slice (some ⟨(E.loc l).b,0,none⟩) xs.length cap ∧ E.w.heap[(E.loc l).b]? = some (.cells cur e (0,0)) ∧ xs.length ≤ cap ∧ 0 < cap ∧ cap ≤ maxLen ∧
         cur.size = cap * t.size ∧ cur.toList.take (xs.length * t.size) = cs)
  | .smap t m => E.ver l = some 0 ∧ ∃ es clock,E.w.heap[(E.loc l).b]? = some (.map es clock) ∧ smapHas E.w E.S t m es
  | .imap t m => E.ver l = some 0 ∧ ∃ es clock,E.w.heap[(E.loc l).b]? = some (.map es clock) ∧ imapHas E.w E.S t m es

def Loc.virtual (l : Loc) : Prop := ∃ a,l.v = .slice a 0 0

/-- The object has a block of its own. -/
def Obj.has (o : Obj) (l : Loc) : Prop :=
  match o with
  | .dead => False
  | .row .. => ¬ l.virtual
  | _ => True

def ownB (E : Env) (objs : List Obj) (b : Nat) : Prop := ∃ l o,objs[l]? = some o ∧ o.has (E.loc l) ∧ (E.loc l).b = b

structure Good (E : Env) (objs : List Obj) : Prop where
  len : objs.length = E.len
  at_ : ∀ l o,objs[l]? = some o → ObjAt E l o
  ns : ∀ b,ownB E objs b → ¬ E.S b
  sl : ∀ b,E.S b → b < E.w.heap.size
  inj : ∀ l l' o o',objs[l]? = some o → objs[l']? = some o' → o.has (E.loc l) → o'.has (E.loc l') → (E.loc l).b = (E.loc l').b → l = l'

/-- What has become of the world between two points of one run: 'imp' are the objects that could be written. -/
structure Step (E0 : Env) (imp : List Obj) (E : Env) (objs : List Obj) : Prop where
  ext : Ext E0 E
  os : E.w.os = E0.w.os
  tape : E.w.tape = E0.w.tape
  output : E.w.output = E0.w.output
  size : E0.w.heap.size ≤ E.w.heap.size
  frame : ∀ b,b < E0.w.heap.size → ¬ ownB E0 imp b → E.w.heap[b]? = E0.w.heap[b]?
  own : ∀ b,ownB E objs b → E0.w.heap.size ≤ b ∨ ownB E0 imp b
  st : ∀ b,E.S b → E0.S b ∨ E0.w.heap.size ≤ b ∨ ownB E0 imp b

theorem Step.refl (E : Env) (objs : List Obj) : Step E objs E objs :=
  ⟨.refl _,rfl,rfl,rfl,Nat.le_refl _,fun _ _ _ => rfl,fun _ h => .inr h,fun _ h => .inl h⟩

theorem Step.trans {E0 E1 E2 : Env} {o0 o1 o2 : List Obj} (h : Step E0 o0 E1 o1) (k : Step E1 o1 E2 o2) : Step E0 o0 E2 o2 :=
  ⟨h.ext.trans k.ext,k.os.trans h.os,k.tape.trans h.tape,k.output.trans h.output,Nat.le_trans h.size k.size,
    fun b hb hn => (k.frame b (Nat.lt_of_lt_of_le hb h.size) (fun ho => (h.own b ho).elim (fun h' => by omega) hn)).trans (h.frame b hb hn),
    fun b hb => (k.own b hb).elim (fun h' => .inl (Nat.le_trans h.size h')) (h.own b),
    fun b hb => (k.st b hb).elim (h.st b) (fun h' => h'.elim (fun h' => .inr (.inl (Nat.le_trans h.size h'))) (fun h' => .inr (h.own b h')))⟩

theorem ObjAt.block_lt {E : Env} {l : Nat} {o : Obj} (h : ObjAt E l o) (hh : o.has (E.loc l)) : (E.loc l).b < E.w.heap.size := by
  cases o with
  | dead => exact hh.elim
  | box cs => obtain ⟨_,vals,t,hb,_⟩ := h;exact (Array.getElem?_eq_some_iff.1 hb).1
  | row t xs ver =>
    obtain ⟨_,_,_,e,cs,_,h | ⟨cap,cur,_,hb,_⟩⟩ := h
    · exact absurd ⟨_,h.choose_spec.1⟩ hh
    · exact (Array.getElem?_eq_some_iff.1 hb).1
  | smap t m => obtain ⟨_,es,c,hb,_⟩ := h;exact (Array.getElem?_eq_some_iff.1 hb).1
  | imap t m => obtain ⟨_,es,c,hb,_⟩ := h;exact (Array.getElem?_eq_some_iff.1 hb).1

theorem Good.own_lt {E : Env} {objs : List Obj} (h : Good E objs) {b : Nat} (hb : ownB E objs b) : b < E.w.heap.size := by
  obtain ⟨l,o,ho,hh,rfl⟩ := hb
  exact (h.at_ l o ho).block_lt hh

/-- An object that nobody touched stands as it stood. -/
theorem ObjAt.keep {E E' : Env} {l : Nat} {o : Obj} (h : ObjAt E l o) (hx : Ext E E') (hv : E'.ver l = E.ver l) (hl : E'.loc l = E.loc l)
    (hb : o.has (E.loc l) → E'.w.heap[(E.loc l).b]? = E.w.heap[(E.loc l).b]?) : ObjAt E' l o := by
  cases o with
  | dead => exact hv.trans h
  | box cs =>
    obtain ⟨h1,vals,t,h2,h3,h4⟩ := h
    exact ⟨hv.trans h1,vals,t,by rw [hl,hb trivial];exact h2,h3,fun j hj => (h4 j hj).mono hx⟩
  | row t xs ver =>
    obtain ⟨h1,h2,h3,e,cs,h4,h5⟩ := h
    refine ⟨hv.trans h1,by rw [hl];exact h2,h3,e,cs,h4.mono hx.S,?_⟩
    rw [hl]
    rcases h5 with h5 | ⟨cap,cur,h5,h6,h7⟩
    · exact .inl h5
    · refine .inr ⟨cap,cur,h5,?_,h7⟩
      rw [hb ?_];exact h6
      rintro ⟨a,ha⟩
      rw [h5] at ha
      injection ha with _ _ h8
      have := h7.2.1
      omega
  | smap t m =>
    obtain ⟨h1,es,c,h2,h3,h4⟩ := h
    refine ⟨hv.trans h1,es,c,by rw [hl,hb trivial];exact h2,fun e he => ?_,h4⟩
    obtain ⟨k,x,h5,h6,h7⟩ := h3 e he
    exact ⟨k,x,h5,h6,h7.mono hx.S⟩
  | imap t m =>
    obtain ⟨h1,es,c,h2,h3,h4⟩ := h
    refine ⟨hv.trans h1,es,c,by rw [hl,hb trivial];exact h2,fun e he => ?_,h4⟩
    obtain ⟨k,x,h5,h6,h7⟩ := h3 e he
    exact ⟨k,x,h5,h6,h7.mono hx.S⟩

set_option linter.unusedVariables false

/-! ## The evaluator of operations over abstract states -/
inductive TK where
  | int (k : IntKind) | bool | str | sl (e : TypeId) | arr (n : Nat) (e : TypeId) | st (offs : List (Nat × Nat)) | ptr | map (k e : TypeId) | fn | other

structure TI where
  k : TK
  size : Nat
  bytes : Nat
  zero : List Value
  code : Option Ty

def TK.known : TK → Bool
  | .other => false
  | _ => true
def TI.isAgg (i : TI) : Bool := match i.k with | .arr .. | .st _ => true | _ => false

structure TI.Ok (P : Program) (t : TypeId) (i : TI) : Prop where
  info : ∃ info z,P.info? t = some info ∧ info.size = i.size ∧ info.bytes = i.bytes ∧ info.zero = some z ∧ z.cells.toList = i.zero ∧ z.cells.size = i.size
  kind : match i.k with
    | .int k => P.underlying t = some (.int k)
    | .bool => P.underlying t = some .bool
    | .str => P.underlying t = some .string
    | .sl e => P.underlying t = some (.slice e)
    | .arr n e => P.underlying t = some (.array n e)
    | .st offs => ∃ fs,P.underlying t = some (.struct fs) ∧ fs.toList.map (fun f => (f.offset,P.cellsOf f.type)) = offs ∧ ∀ p ∈ offs,p.2 ≠ 0
    | .ptr => ∃ e,P.underlying t = some (.pointer e)
    | .map k e => P.underlying t = some (.map k e)
    | .fn => ∃ ps rs v,P.underlying t = some (.func ps rs v)
    | .other => True
  code : ∀ T,i.code = some T → T.size = i.size ∧ 0 < i.size ∧ ∀ w S,Cells w S T T.dflt i.zero

abbrev TyTab := TypeId → Option TI
def TabOk (P : Program) (τ : TyTab) : Prop := ∀ t i,τ t = some i → i.Ok P t

structure St where
  nt : Nat
  tmps : List (Nat × V)
  objs : List Obj

def look (t : Nat) : List (Nat × V) → V
  | [] => .any
  | (u,v) :: r => match Nat.beq u t with
    | true => v
    | false => look t r

def St.get (s : St) (t : Nat) : V := look t s.tmps
def St.set (s : St) (t : Nat) (v : V) : St := { s with tmps := (t,v) :: s.tmps }

def vconst : Value → V
  | .int k n => .d (.int k) n
  | .bool b => .d .bool b
  | .string s => .d .str s
  | .slice none 0 0 => .nils
  | .pointer none => .nilp
  | .nilFunc => .nilf
  | .map none => .nilm
  | .tuple vs => match vs.toList with | [] => .tup [] | _ => .any
  | _ => .any

def St.ev (s : St) : Operand → V
  | .tmp t => s.get t
  | .const c => vconst c
  | .func f => .fn (.func f) [] []
  | .global _ => .any

def V.solid : V → Bool
  | .any | .when .. | .tup _ | .agg _ => false
  | .opt _ v => v.solid
  | _ => true

/-- The cells of a value that is stored. -/
def V.scells : V → Option (List V)
  | .agg cs => if cs.all V.solid then some cs else none
  | v => if v.solid then some [v] else none

/-- Behind a guard that said yes. -/
def V.strip : V → Prop × V
  | .when b v => (b = true,v)
  | v => (True,v)

def asInt : V → Option (IntKind × Int)
  | .d (.int k) n => some (k,n)
  | _ => none
def asBool : V → Option Bool
  | .d .bool b => some b
  | _ => none
def asStr : V → Option ByteArray
  | .d .str s => some s
  | _ => none
def asSl (T : Ty) : V → Option (List T.den)
  | .d (.sl t) l => if h : t = T then some (h ▸ l) else none
  | .nils => some []
  | _ => none

def pack : (T : Ty) → List V → Option T.den
  | .int k,[v] => match asInt v with | some (k',n) => (if k' = k then some n else none) | none => none
  | .bool,[v] => asBool v
  | .str,[v] => asStr v
  | .sl t,[v] => asSl t v
  | .pair a b,cs => match pack a (cs.take a.size),pack b (cs.drop a.size) with
    | some x,some y => some (x,y)
    | _,_ => none
  | .unit,[] => some ()
  | _,_ => none

/-- An obligation,or none. -/
def okP : Option Prop → Prop
  | none => True
  | some p => p
def andO (p : Prop) : Option Prop → Option Prop
  | none => some p
  | some q => some (p ∧ q)

structure Out where
  ob : Option Prop
  v : V
  objs : List Obj

def ofCells (agg : Bool) (cs : List V) : Option V :=
  if agg then some (.agg cs) else match cs with | [v] => some v | _ => none

def takeN (n : Nat) (l : List V) : Option (List V) := if n ≤ l.length then some (l.take n) else none

/-- The first cells of a list are put in the place of others. -/
def putCells (cs : List V) (off : Nat) (new : List V) : Option (List V) :=
  if off + new.length ≤ cs.length then some (cs.take off ++ new ++ cs.drop (off + new.length)) else none

def effLoad (τ : TyTab) (objs : List Obj) (t : TypeId) (v : V) : Option Out :=
  match τ t with
  | none => none
  | some ti => if ti.k.known then match v with
    | .ref l 0 off => match objs[l]? with
      | some (.box cs) => ((takeN ti.size (cs.drop off)).bind (ofCells ti.isAgg)).map fun v => ⟨none,v,objs⟩
      | _ => none
    | .er cs => ((takeN ti.size cs).bind (ofCells ti.isAgg)).map fun v => ⟨none,v,objs⟩
    | .rref l ver i off => match objs[l]? with
      | some (.row T xs ver') => if ver = ver' then ((takeN ti.size ((flat T (xs.getD i T.dflt)).drop off)).bind (ofCells ti.isAgg)).map fun v => ⟨some (i < xs.length),v,objs⟩ else none
      | _ => none
    | _ => none
    else none

def effStore (τ : TyTab) (objs : List Obj) (t : TypeId) (a x : V) : Option Out :=
  match τ t with
  | none => none
  | some ti => match x.scells with
    | none => none
    | some new => if new.length = ti.size then match a with
      | .ref l 0 off => match objs[l]? with
        | some (.box cs) => (putCells cs off new).map fun cs' => ⟨none,.tup [],objs.set l (.box cs')⟩
        | _ => none
      | .rref l ver i off => match objs[l]? with
        | some (.row T xs ver') => if ver = ver' then ((putCells (flat T (xs.getD i T.dflt)) off new).bind (pack T)).map fun y => ⟨some (i < xs.length),.tup [],objs.set l (.row T (xs.set i y) ver)⟩ else none
        | _ => none
      | _ => none
      else none

def effFieldAddr (τ : TyTab) (objs : List Obj) (s : TypeId) (v : V) (f : Nat) : Option Out :=
  match τ s with
  | some ⟨.st offs,_,_,_,_⟩ => match offs[f]? with
    | some (o,_) => match v with
      | .ref l 0 off => match objs[l]? with
        | some (.box _) => some ⟨none,.ref l 0 (off + o),objs⟩
        | _ => none
      | .er cs => some ⟨none,.er (cs.drop o),objs⟩
      | .rref l ver i off => match objs[l]? with
        | some (.row _ _ ver') => if ver = ver' then some ⟨none,.rref l ver i (off + o),objs⟩ else none
        | _ => none
      | _ => none
    | none => none
  | _ => none

def effIndexAddr (τ : TyTab) (objs : List Obj) (t : TypeId) (x ix : V) : Option Out :=
  match τ t,asInt ix with
  | some ⟨.sl e,_,_,_,_⟩,some (_,i) => match τ e with
    | some ei => match x with
      | .d (.sl T) l => if T.size = ei.size then some ⟨some (0 ≤ i ∧ i < (List.length (α := T.den) l : Int)),.er (flat T (List.getD (α := T.den) l i.toNat T.dflt)),objs⟩ else none
      | .osl l ver => match objs[l]? with
        | some (.row T xs ver') => if ver = ver' ∧ T.size = ei.size then some ⟨some (0 ≤ i ∧ i < (xs.length : Int)),.rref l ver i.toNat 0,objs⟩ else none
        | _ => none
      | .osp l ver n => match objs[l]? with
        | some (.row T xs ver') => if ver = ver' ∧ T.size = ei.size then some ⟨some (0 ≤ i ∧ i < (n : Int) ∧ n ≤ xs.length),.rref l ver i.toNat 0,objs⟩ else none
        | _ => none
      | _ => none
    | none => none
  | some ⟨.arr n e,_,_,_,_⟩,some (_,i) => match τ e with
    | some ei => match x with
      | .rref l ver 0 0 => match objs[l]? with
        | some (.row T xs ver') => if ver = ver' ∧ T.size = ei.size then some ⟨some (0 ≤ i ∧ i < (n : Int)),.rref l ver i.toNat 0,objs⟩ else none
        | _ => none
      | _ => none
    | none => none
  | _,_ => none

def fits : IntKind → Int → Prop
  | .i8,n => -128 ≤ n ∧ n ≤ 127
  | .i16,n => -32768 ≤ n ∧ n ≤ 32767
  | .i32,n => -2147483648 ≤ n ∧ n ≤ 2147483647
  | .i64,n => -9223372036854775808 ≤ n ∧ n ≤ 9223372036854775807
  | .u8,n => 0 ≤ n ∧ n ≤ 255
  | .u16,n => 0 ≤ n ∧ n ≤ 65535
  | .u32,n => 0 ≤ n ∧ n ≤ 4294967295
  | .u64,n => 0 ≤ n ∧ n ≤ 18446744073709551615

/-- A number that is wrapped,or (hx) must fit. -/
def wr (hx : Bool) (k : IntKind) (n : Int) : Option Prop × Int := match hx with
  | true => (some (fits k n),n)
  | false => (none,k.wrap n)

def effInt (op : BinOp) (hx : Bool) (k : IntKind) (a b : Int) : Option (Option Prop × V) :=
  match op with
  | .add => some ((wr hx k (a + b)).1,.d (.int k) (wr hx k (a + b)).2)
  | .sub => some ((wr hx k (a - b)).1,.d (.int k) (wr hx k (a - b)).2)
  | .mul => some ((wr hx k (a * b)).1,.d (.int k) (wr hx k (a * b)).2)
  | .quo => some (andO (b ≠ 0) (wr hx k (a.tdiv b)).1,.d (.int k) (wr hx k (a.tdiv b)).2)
  | .rem => some (some (b ≠ 0),.d (.int k) (a.tmod b))
  | .eql => some (none,.d .bool (a == b))
  | .neq => some (none,.d .bool (a != b))
  | .lss => some (none,.d .bool (decide (a < b)))
  | .leq => some (none,.d .bool (decide (a ≤ b)))
  | .gtr => some (none,.d .bool (decide (a > b)))
  | .geq => some (none,.d .bool (decide (a ≥ b)))
  | .and => some (none,.d (.int k) (k.wrap ((BitVec.ofInt k.bits a &&& BitVec.ofInt k.bits b).toNat : Int)))
  | .or => some (none,.d (.int k) (k.wrap ((BitVec.ofInt k.bits a ||| BitVec.ofInt k.bits b).toNat : Int)))
  | _ => none

def effBin (τ : TyTab) (objs : List Obj) (hx : Bool) (op : BinOp) (xt : TypeId) (x y : V) : Option Out :=
  match x,y with
  | .d (.int k) a,.d (.int k') b => match op with
    | .shl => some ⟨some (0 ≤ b),.d (.int k) (k.wrap (a * 2 ^ (min b.toNat k.bits))),objs⟩
    | .shr => some ⟨some (0 ≤ b),.d (.int k) (a.fdiv (2 ^ (min b.toNat k.bits))),objs⟩
    | op => if k = k' then (effInt op hx k a b).map fun r => ⟨r.1,r.2,objs⟩ else none
  | .d .bool a,.d .bool b => match τ xt with
    | some ⟨.bool,_,_,_,_⟩ => match op with
      | .eql => some ⟨none,.d .bool (a == b),objs⟩
      | .neq => some ⟨none,.d .bool (a != b),objs⟩
      | _ => none
    | _ => none
  | p,.nilp => match τ xt with
    | some ⟨.ptr,_,_,_,_⟩ =>
      let r (b : Bool) : Option Out := match op with
        | .eql => some ⟨none,.d .bool b,objs⟩
        | .neq => some ⟨none,.d .bool (!b),objs⟩
        | _ => none
      match p with
      | .nilp => r true
      | .er _ => r false
      | .opt b (.er _) => r (!b)
      | _ => none
    | _ => none
  | _,_ => none

def effUn (objs : List Obj) (hx : Bool) (op : UnOp) (x : V) : Option Out :=
  match op,x with
  | .neg,.d (.int k) n => some ⟨(wr hx k (-n)).1,.d (.int k) (wr hx k (-n)).2,objs⟩
  | .not,.d .bool b => some ⟨none,.d .bool (!b),objs⟩
  | _,_ => none

def effConvert (τ : TyTab) (objs : List Obj) (hx : Bool) (src dst : TypeId) (x : V) : Option Out :=
  match τ src,τ dst,x with
  | some ⟨.int _,_,_,_,_⟩,some ⟨.int k,_,_,_,_⟩,.d (.int _) n => some ⟨(wr hx k n).1,.d (.int k) (wr hx k n).2,objs⟩
  | _,_,_ => none

def zeroV (vs : List Value) : List V := vs.map vconst

def effAlloc (τ : TyTab) (objs : List Obj) (t : TypeId) : Option Out :=
  match τ t with
  | some ⟨.arr n e,_,_,_,_⟩ => none
  | some ti => some ⟨none,.ref objs.length 0 0,objs ++ [.box (zeroV ti.zero)]⟩
  | none => none

def effBox (objs : List Obj) (x : V) : Option Out :=
  x.scells.map fun cs => ⟨none,.ref objs.length 0 0,objs ++ [.box cs]⟩

def fillV (offs : List (Nat × Nat)) : List V → List (Nat × V) → Option (List V)
  | cs,[] => some cs
  | cs,(i,v) :: r => match offs[i]?,v.scells with
    | some (o,n),some new => if new.length = n then (putCells cs o new).bind fun cs' => fillV offs cs' r else none
    | _,_ => none

def effBuild (τ : TyTab) (objs : List Obj) (t : TypeId) (parts : List (Nat × V)) : Option Out :=
  match τ t with
  | some ⟨.st offs,_,_,zero,_⟩ => (fillV offs (zeroV zero) parts).map fun cs => ⟨none,.agg cs,objs⟩
  | _ => none

/-- The elements of a literal,in order. -/
def elemsOf (T : Ty) : Nat → List (Nat × V) → Option (List T.den)
  | _,[] => some []
  | n,(i,v) :: r => if i = n then match v.scells.bind (pack T),elemsOf T (n + 1) r with
    | some x,some l => some (x :: l)
    | _,_ => none
    else none

def effBuildSlice (τ : TyTab) (objs : List Obj) (t : TypeId) (len : Nat) (parts : List (Nat × V)) : Option Out :=
  match τ t with
  | some ⟨.sl e,_,_,_,_⟩ => match τ e with
    | some ei => match ei.code with
      | some T => if len = parts.length then (elemsOf T 0 parts).map fun xs => ⟨some (len * ei.size ≤ 16777216),.osl objs.length 0,objs ++ [.row T xs 0]⟩ else none
      | none => none
    | none => none
  | _ => none

def effMakeSlice (τ : TyTab) (objs : List Obj) (t : TypeId) (l c : V) : Option Out :=
  match τ t,asInt l,asInt c with
  | some ⟨.sl e,_,_,_,_⟩,some (.i64,l),some (.i64,c) => match τ e with
    | some ei => match ei.code with
      | some T => some ⟨some (0 ≤ l ∧ l ≤ c ∧ c * ei.bytes ≤ 140737488355328 ∧ c ≤ 9223372036854775807),.osl objs.length 0,objs ++ [.row T (List.replicate l.toNat T.dflt) 0]⟩
      | none => none
    | none => none
  | _,_,_ => none

/-- The elements that an appended or copied slice holds. -/
def srcOf (T : Ty) (objs : List Obj) : V → Option (List T.den)
  | .osl l ver => match objs[l]? with
    | some (.row t xs ver') => if h : t = T then (if ver = ver' then some (h ▸ xs) else none) else none
    | _ => none
  | v => asSl T v

def effAppend (τ : TyTab) (objs : List Obj) (ts tx : TypeId) (s x : V) : Option Out :=
  if ts = tx then match τ ts with
  | some ⟨.sl e,_,_,_,_⟩ => match τ e with
    | some ei => match ei.code with
      | some T => match srcOf T objs x with
        | some ys => match s with
          | .nils => some ⟨some (ys.length * ei.bytes ≤ 140737488355328 ∧ ys.length ≤ 9223372036854775807),.osl objs.length 0,objs ++ [.row T ys 0]⟩
          | .osl l ver => match objs[l]? with
            | some (.row t xs ver') => if h : t = T then (if ver = ver' then some ⟨some ((xs.length + ys.length) * ei.bytes ≤ 140737488355328 ∧ xs.length + ys.length ≤ 9223372036854775807),.osl l (ver + 1),objs.set l (.row T ((h ▸ xs : List T.den) ++ ys) (ver + 1))⟩ else none) else none
            | _ => none
          | _ => none
        | none => none
      | none => none
    | none => none
  | _ => none
  else none

def effLen (τ : TyTab) (objs : List Obj) (t : TypeId) (x : V) : Option Out :=
  match τ t,x with
  | some ⟨.sl _,_,_,_,_⟩,.d (.sl T) l => some ⟨none,.d (.int .i64) (List.length (α := T.den) l : Int),objs⟩
  | some ⟨.sl _,_,_,_,_⟩,.nils => some ⟨none,.d (.int .i64) (0 : Int),objs⟩
  | some ⟨.sl _,_,_,_,_⟩,.osl l ver => match objs[l]? with
    | some (.row _ xs ver') => if ver = ver' then some ⟨none,.d (.int .i64) (xs.length : Int),objs⟩ else none
    | _ => none
  | some ⟨.sl _,_,_,_,_⟩,.osp l ver n => match objs[l]? with
    | some (.row _ _ ver') => if ver = ver' then some ⟨none,.d (.int .i64) (n : Int),objs⟩ else none
    | _ => none
  | some ⟨.str,_,_,_,_⟩,.d .str s => some ⟨none,.d (.int .i64) (s.size : Int),objs⟩
  | some ⟨.arr n _,_,_,_,_⟩,_ => some ⟨none,.d (.int .i64) (n : Int),objs⟩
  | _,_ => none

def effCopy (τ : TyTab) (objs : List Obj) (td tx : TypeId) (d x : V) : Option Out :=
  match τ td,τ tx with
  | some ⟨.sl e,_,_,_,_⟩,some ⟨.sl _,_,_,_,_⟩ => match τ e with
    | some ei => match ei.code with
      | some T => match asSl T x,d with
        | some ys,.osl l ver => match objs[l]? with
          | some (.row t xs ver') => if h : t = T then (if ver = ver' then
              some ⟨none,.d (.int .i64) (min ys.length xs.length : Nat),objs.set l (.row T (ys.take (min ys.length xs.length) ++ (h ▸ xs : List T.den).drop (min ys.length xs.length)) ver)⟩ else none) else none
          | _ => none
        | _,_ => none
      | none => none
    | none => none
  | _,_ => none

def effSlice (τ : TyTab) (objs : List Obj) (t : TypeId) (x : V) (lo hi : Option V) : Option Out :=
  match τ t,x with
  | some ⟨.sl e,_,_,_,_⟩,.d (.sl T) l => match τ e with
    | some ei => if T.size = ei.size ∧ 0 < T.size then
      let l : List T.den := l
      match lo,hi with
      | none,none => some ⟨none,.d (.sl T) l,objs⟩
      | none,some h => match asInt h with
        | some (_,h) => some ⟨some (0 ≤ h ∧ h ≤ (l.length : Int)),.d (.sl T) (l.take h.toNat),objs⟩
        | none => none
      | some a,none => match asInt a with
        | some (_,a) => some ⟨some (0 ≤ a ∧ a ≤ (l.length : Int)),.d (.sl T) (l.drop a.toNat),objs⟩
        | none => none
      | some a,some h => match asInt a,asInt h with
        | some (_,a),some (_,h) => some ⟨some (0 ≤ a ∧ a ≤ h ∧ h ≤ (l.length : Int)),.d (.sl T) ((l.take h.toNat).drop a.toNat),objs⟩
        | _,_ => none
      else none
    | none => none
  | _,_ => none

def effMinMax (objs : List Obj) (mx : Bool) (x y : V) : Option Out :=
  match x,y with
  | .d (.int k) a,.d (.int k') b => if k = k' then some ⟨none,.d (.int k) (if mx then (if b > a then b else a) else (if b < a then b else a)),objs⟩ else none
  | _,_ => none

def mput {α β : Type} [DecidableEq α] (m : α → Option β) (k : α) (x : β) : α → Option β := fun j => if j = k then some x else m j

def effBuiltin (τ : TyTab) (objs : List Obj) (b : Builtin) (ts : List TypeId) (args : List V) : Option Out :=
  match b,ts,args with
  | .len,[t],[x] => effLen τ objs t x
  | .append,[t,u],[s,x] => effAppend τ objs t u s x
  | .copy,[t,u],[d,x] => effCopy τ objs t u d x
  | .min,_,[x,y] => effMinMax objs false x y
  | .max,_,[x,y] => effMinMax objs true x y
  | _,_,_ => none

def boolV : V → Option (Prop × Bool)
  | .d .bool b => some (True,b)
  | .when g (.d .bool b) => some (g = true,b)
  | _ => none

def effPick (objs : List Obj) (a b : Operand) (c x y : V) : Option Out :=
  match asBool c,boolV x,boolV y with
  | some c,some (gx,x),some (gy,y) =>
    match a,b with
    | .const (.bool true),_ => some ⟨some (c = false → gy),.d .bool (c || y),objs⟩
    | _,.const (.bool false) => some ⟨some (c = true → gx),.d .bool (c && x),objs⟩
    | _,_ => some ⟨some ((c = true → gx) ∧ (c = false → gy)),.d .bool (if c then x else y),objs⟩
  | _,_,_ => none

/-- One operation,its guard aside. 'hx': exact arithmetic (what does not fit is refused by the obligation). -/
def eff (τ : TyTab) (hx : Bool) (op : Op) (s : St) : Option Out :=
  match op with
  | .move x | .assign x => some ⟨none,s.ev x,s.objs⟩
  | .pick c a b => effPick s.objs a b (s.ev c) (s.ev a) (s.ev b)
  | .alloc t => effAlloc τ s.objs t
  | .box _ x => effBox s.objs (s.ev x)
  | .build t parts => effBuild τ s.objs t (parts.toList.map fun p => (p.1,s.ev p.2))
  | .buildSlice t n parts => effBuildSlice τ s.objs t n (parts.toList.map fun p => (p.1,s.ev p.2))
  | .load t a => effLoad τ s.objs t (s.ev a)
  | .store t a x => effStore τ s.objs t (s.ev a) (s.ev x)
  | .nilCheck x => match s.ev x with
    | .ref l v o => match s.objs[l]? with
      | some (.box _) => if v = 0 then some ⟨none,.ref l v o,s.objs⟩ else none
      | _ => none
    | .er cs => some ⟨none,.er cs,s.objs⟩
    | .opt b (.er cs) => some ⟨some (b = true),.er cs,s.objs⟩
    | .fn (.func f) a b => some ⟨none,.fn (.func f) a b,s.objs⟩
    | _ => none
  | .binOp op xt x y _ => effBin τ s.objs hx op xt (s.ev x) (s.ev y)
  | .unOp op _ x => effUn s.objs hx op (s.ev x)
  | .convert a b x => effConvert τ s.objs hx a b (s.ev x)
  | .makeFunc f a b => some ⟨none,.fn f (a.toList.map s.ev) (b.toList.map s.ev),s.objs⟩
  | .makeSlice t l c => effMakeSlice τ s.objs t (s.ev l) (s.ev c)
  | .slice t x lo hi none => effSlice τ s.objs t (s.ev x) (lo.map s.ev) (hi.map s.ev)
  | .fieldAddr t x f => effFieldAddr τ s.objs t (s.ev x) f
  | .indexAddr t x i => effIndexAddr τ s.objs t (s.ev x) (s.ev i)
  | .extract x i => match s.ev x with
    | .tup vs => (vs[i]?).map fun v => ⟨none,v,s.objs⟩
    | _ => none
  | .call { callee := .builtin b,args,argTypes } => effBuiltin τ s.objs b argTypes.toList (args.toList.map s.ev)
  | _ => none

/-! ## What a represented value is -/
section inv
variable {E : Env} {c : Value}
theorem Rep.int_inv {k : IntKind} {n : Int} (h : Rep E (.d (.int k) n) c) : c = .int k n := by
  cases h with | d h => simpa [Cells] using h
theorem Rep.bool_inv {b : Bool} (h : Rep E (.d .bool b) c) : c = .bool b := by
  cases h with | d h => simpa [Cells] using h
theorem Rep.str_inv {s : ByteArray} (h : Rep E (.d .str s) c) : c = .string s := by
  cases h with | d h => simpa [Cells] using h
theorem Rep.mk_int (k : IntKind) (n : Int) : Rep E (.d (.int k) n) (.int k n) := .d rfl
theorem Rep.mk_bool (b : Bool) : Rep E (.d .bool b) (.bool b) := .d rfl
theorem Rep.mk_str (s : ByteArray) : Rep E (.d .str s) (.string s) := .d rfl

theorem asInt_inv {v : V} {k : IntKind} {n : Int} (h : asInt v = some (k,n)) (r : Rep E v c) : c = .int k n := by
  unfold asInt at h
  split at h
  · simp only [Option.some.injEq,Prod.mk.injEq] at h
    obtain ⟨rfl,rfl⟩ := h
    exact r.int_inv
  · cases h
theorem asBool_inv {v : V} {b : Bool} (h : asBool v = some b) (r : Rep E v c) : c = .bool b := by
  unfold asBool at h
  split at h
  · cases h;exact r.bool_inv
  · cases h
theorem asStr_inv {v : V} {s : ByteArray} (h : asStr v = some s) (r : Rep E v c) : c = .string s := by
  unfold asStr at h
  split at h
  · cases h;exact r.str_inv
  · cases h
theorem asSl_inv {T : Ty} {v : V} {l : List T.den} (h : asSl T v = some l) (r : Rep E v c) : Cells E.w E.S (.sl T) l [c] := by
  unfold asSl at h
  split at h
  · split at h
    · rename_i ht
      subst ht
      cases h
      cases r with | d h => exact h
    · cases h
  · cases h
    cases r
    exact ⟨_,_,rfl,⟨Nat.le_refl _,Nat.zero_le _⟩,fun h => absurd rfl h⟩
  · cases h

/-- A row of abstract cells stands for a row of values. -/
def Reps (E : Env) (vs : List V) (cs : List Value) : Prop := cs.length = vs.length ∧ ∀ j,j < vs.length → Rep E (vs.getD j .any) (cs.getD j undef)

theorem Reps.nil : Reps E [] [] := ⟨rfl,fun j h => absurd h (by simp)⟩
theorem Reps.cons {v : V} {vs : List V} {c : Value} {cs : List Value} (h : Rep E v c) (r : Reps E vs cs) : Reps E (v :: vs) (c :: cs) :=
  ⟨by simp [r.1],fun j hj => by cases j with | zero => simpa using h | succ j => simpa using r.2 j (by simpa using hj)⟩
theorem Reps.head {v : V} {vs : List V} {c : Value} {cs : List Value} (r : Reps E (v :: vs) (c :: cs)) : Rep E v c := by simpa using r.2 0 (by simp)
theorem Reps.tail {v : V} {vs : List V} {c : Value} {cs : List Value} (r : Reps E (v :: vs) (c :: cs)) : Reps E vs cs :=
  ⟨by simpa using r.1,fun j hj => by simpa using r.2 (j + 1) (by simpa using hj)⟩
theorem Reps.append {vs ws : List V} {cs ds : List Value} (h : Reps E vs cs) (k : Reps E ws ds) : Reps E (vs ++ ws) (cs ++ ds) := by
  induction vs generalizing cs with
  | nil =>
    have : cs = [] := List.eq_nil_of_length_eq_zero (by simpa using h.1)
    subst this;simpa using k
  | cons v vs ih =>
    cases cs with
    | nil => have := h.1;simp at this
    | cons c cs => exact .cons h.head (ih h.tail)
theorem Reps.take {vs : List V} {cs : List Value} (h : Reps E vs cs) (n : Nat) : Reps E (vs.take n) (cs.take n) := by
  induction vs generalizing cs n with
  | nil =>
    have : cs = [] := List.eq_nil_of_length_eq_zero (by simpa using h.1)
    subst this;simpa using h
  | cons v vs ih =>
    cases cs with
    | nil => have := h.1;simp at this
    | cons c cs => cases n with
      | zero => exact .nil
      | succ n => exact .cons h.head (ih h.tail n)
theorem Reps.drop {vs : List V} {cs : List Value} (h : Reps E vs cs) (n : Nat) : Reps E (vs.drop n) (cs.drop n) := by
  induction n generalizing vs cs with
  | zero => simpa using h
  | succ n ih =>
    cases vs with
    | nil =>
      have : cs = [] := List.eq_nil_of_length_eq_zero (by simpa using h.1)
      subst this;simpa using h
    | cons v vs => cases cs with
      | nil => have := h.1;simp at this
      | cons c cs => simpa using ih h.tail
theorem Reps.mono {E' : Env} (hx : Ext E E') {vs : List V} {cs : List Value} (h : Reps E vs cs) : Reps E' vs cs := ⟨h.1,fun j hj => (h.2 j hj).mono hx⟩

/-- The datum's leaves stand for the cells that hold it. -/
theorem flat_rep : ∀ {t : Ty} {x : t.den} {cs : List Value},Cells E.w E.S t x cs → Reps E (flat t x) cs
  | .int _,_,_,h => by have h' := h;rw [show _ = _ from h] at h' ⊢;exact .cons (.d h') .nil
  | .bool,_,_,h => by have h' := h;rw [show _ = _ from h] at h' ⊢;exact .cons (.d h') .nil
  | .str,_,_,h => by have h' := h;rw [show _ = _ from h] at h' ⊢;exact .cons (.d h') .nil
  | .sl _,_,_,h => by
    have h' := h
    obtain ⟨a,c,rfl,_⟩ := h
    exact .cons (.d h') .nil
  | .pair _ _,_,_,⟨c1,c2,h,h1,h2⟩ => by rw [h];exact (flat_rep h1).append (flat_rep h2)
  | .unit,_,_,h => by rw [show _ = _ from h];exact .nil

theorem pack_rep : ∀ {t : Ty} {vs : List V} {x : t.den} {cs : List Value},pack t vs = some x → Reps E vs cs → Cells E.w E.S t x cs
  | .int k,vs,x,cs,h,r => by
    match vs,h with
    | [v],h =>
      match cs,r with
      | [],r => have := r.1;simp at this
      | [c],r =>
        simp only [pack] at h
        cases ha : asInt v with
        | none => simp [ha] at h
        | some p =>
          obtain ⟨k',n⟩ := p
          simp only [ha] at h
          split at h
          · rename_i hk;subst hk;cases h;rw [asInt_inv ha r.head];rfl
          · cases h
      | _ :: _ :: _,r => have := r.1;simp at this
    | [],h => simp [pack] at h
    | _ :: _ :: _,h => simp [pack] at h
  | .bool,vs,x,cs,h,r => by
    match vs,h with
    | [v],h =>
      match cs,r with
      | [],r => have := r.1;simp at this
      | [c],r => simp only [pack] at h;rw [asBool_inv h r.head];rfl
      | _ :: _ :: _,r => have := r.1;simp at this
    | [],h => simp [pack] at h
    | _ :: _ :: _,h => simp [pack] at h
  | .str,vs,x,cs,h,r => by
    match vs,h with
    | [v],h =>
      match cs,r with
      | [],r => have := r.1;simp at this
      | [c],r => simp only [pack] at h;rw [asStr_inv h r.head];rfl
      | _ :: _ :: _,r => have := r.1;simp at this
    | [],h => simp [pack] at h
    | _ :: _ :: _,h => simp [pack] at h
  | .sl t,vs,x,cs,h,r => by
    match vs,h with
    | [v],h =>
      match cs,r with
      | [],r => have := r.1;simp at this
      | [c],r => simp only [pack] at h;exact asSl_inv h r.head
      | _ :: _ :: _,r => have := r.1;simp at this
    | [],h => simp [pack] at h
    | _ :: _ :: _,h => simp [pack] at h
  | .pair a b,vs,x,cs,h,r => by
    simp only [pack] at h
    split at h
    · rename_i p q hp hq
      cases h
      exact ⟨cs.take a.size,cs.drop a.size,(List.take_append_drop _ _).symm,pack_rep hp (r.take _),pack_rep hq (r.drop _)⟩
    · cases h
  | .unit,vs,x,cs,h,r => by
    match vs,h with
    | [],h => exact List.eq_nil_of_length_eq_zero (by simpa using r.1)
    | _ :: _,h => simp [pack] at h

theorem vconst_rep (c : Value) : Rep E (vconst c) c := by
  unfold vconst
  split
  · exact .mk_int _ _
  · exact .mk_bool _
  · exact .mk_str _
  · exact .nils _
  · exact .nilp
  · exact .nilf
  · exact .nilm
  · rename_i vs
    split
    · rename_i h
      exact .tup (by simpa using congrArg List.length h) (fun j hj => absurd hj (by simp))
    · exact .any _
  · exact .any _

theorem zeroV_reps (vs : List Value) : Reps E (zeroV vs) vs := by
  induction vs with
  | nil => exact .nil
  | cons v vs ih => exact .cons (vconst_rep v) ih

theorem solid_one : ∀ {v : V} {c : Value},v.solid = true → Rep E v c → c.oneCell' = true
  | .any,_,h,_ => by simp [V.solid] at h
  | .when ..,_,h,_ => by simp [V.solid] at h
  | .tup _,_,h,_ => by simp [V.solid] at h
  | .agg _,_,h,_ => by simp [V.solid] at h
  | .opt b v,c,h,r => by
    cases r with
    | opt h1 h2 =>
      cases b with
      | true => exact solid_one (by simpa [V.solid] using h) (h1 rfl)
      | false => rw [h2 rfl];rfl
  | .d t x,c,_,r => by cases r with | d h => exact h.one c (by simp)
  | .nilp,c,_,r => by cases r;rfl
  | .nilf,c,_,r => by cases r;rfl
  | .nils,c,_,r => by cases r;rfl
  | .nilm,c,_,r => by cases r;rfl
  | .fn ..,c,_,r => by cases r;rfl
  | .er _,c,_,r => by cases r;rfl
  | .ref ..,c,_,r => by cases r;assumption
  | .rref ..,c,_,r => by cases r;assumption
  | .osl ..,c,_,r => by cases r;assumption
  | .osp ..,c,_,r => by cases r;assumption
  | .map _,c,_,r => by cases r;assumption

theorem cells_of_one {c : Value} (h : c.oneCell' = true) : c.cells = #[c] := by
  cases c <;> simp [Value.oneCell'] at h <;> rfl

theorem scells_reps {v : V} {cs : List V} {c : Value} (h : v.scells = some cs) (r : Rep E v c) : Reps E cs c.cells.toList ∧ ∀ u ∈ c.cells.toList,u.oneCell' = true := by
  unfold V.scells at h
  split at h
  · split at h
    · rename_i ds hs
      cases h
      cases r with
      | agg h1 h2 =>
        rename_i a
        have hr : Reps E cs a.toList := ⟨by simpa using h1,fun j hj => by simpa [Array.getD_eq_getD_getElem?,List.getD_eq_getElem?_getD] using h2 j hj⟩
        refine ⟨hr,fun u hu => ?_⟩
        change u ∈ a.toList at hu
        obtain ⟨j,hj,rfl⟩ := List.getElem_of_mem hu
        have hj' : j < cs.length := by rw [← hr.1];exact hj
        have := hr.2 j hj'
        simp only [List.getD_eq_getElem?_getD,List.getElem?_eq_getElem hj,List.getElem?_eq_getElem hj',Option.getD_some] at this
        exact solid_one (List.all_eq_true.1 hs _ (List.getElem_mem hj')) this
    · cases h
  · split at h
    · rename_i hs
      cases h
      have h1 := solid_one hs r
      rw [cells_of_one h1]
      refine ⟨.cons r .nil,fun u hu => ?_⟩
      simp at hu;subst hu;exact h1
    · cases h
end inv
end Go.Proofs.Ytlncingakpelbaa

namespace Go.Proofs.Ytlncingakpelbaa
open Go
set_option linter.unusedVariables false

/-! ## Moves of the environment -/
def upd {α : Type} (f : Nat → α) (l : Nat) (x : α) : Nat → α := fun j => if j = l then x else f j
theorem upd_same {α : Type} (f : Nat → α) (l : Nat) (x : α) : upd f l x l = x := if_pos rfl
theorem upd_ne {α : Type} (f : Nat → α) {l j : Nat} (x : α) (h : j ≠ l) : upd f l x j = f j := if_neg h

/-- A new own object. -/
def Env.push (E : Env) (w : World) (L : Loc) : Env := ⟨w,E.S,E.len + 1,upd E.loc E.len L,upd E.ver E.len (some 0)⟩

/-- The object l has turned: a new version,a new place. -/
def Env.put (E : Env) (w : World) (l : Nat) (L : Loc) (u : Nat) : Env := ⟨w,E.S,E.len,upd E.loc l L,upd E.ver l (some u)⟩

theorem same_of_grown {w w' : World} {row : Option Nat} (h : w.grownBy w' row) {b : Nat} (hb : b < w.heap.size) (hn : some b ≠ row) : w'.heap[b]? = w.heap[b]? := h.block b hb hn

theorem push_ext {E : Env} {objs : List Obj} (g : Good E objs) {w : World} (L : Loc) (hw : E.w.grownBy w none) : Ext E (E.push w L) :=
  ⟨fun b hb => ⟨hb,hw.block b (g.sl b hb) (by simp)⟩,Nat.le_succ _,fun l hl u' hu' => by
    have hne : l ≠ E.len := by omega
    simp only [Env.push,upd_ne _ _ hne] at hu' ⊢
    exact ⟨u',hu',Nat.le_refl _,fun _ => trivial⟩⟩

theorem put_ext {E : Env} {objs : List Obj} (g : Good E objs) {w : World} {l : Nat} {L : Loc} {o : Obj} {u u' : Nat} {row : Option Nat} (hl : objs[l]? = some o)
    (hw : E.w.grownBy w row) (hrow : ∀ b,row = some b → o.has (E.loc l) ∧ b = (E.loc l).b)
    (hu : E.ver l = some u) (hle : u ≤ u') (heq : u = u' → L = E.loc l) : Ext E (E.put w l L u') :=
  ⟨fun b hs => ⟨hs,hw.block b (g.sl b hs) (by
      intro e
      obtain ⟨h1,h2⟩ := hrow b e.symm
      exact g.ns b ⟨l,o,hl,h1,h2.symm⟩ hs)⟩,Nat.le_refl _,fun j hj v' hv' => by
    by_cases hne : j = l
    · subst hne
      simp only [Env.put,upd_same] at hv' ⊢
      cases hv'
      exact ⟨u,hu,hle,heq⟩
    · simp only [Env.put,upd_ne _ _ hne] at hv' ⊢
      exact ⟨v',hv',Nat.le_refl _,fun _ => trivial⟩⟩

theorem Good.push {E : Env} {objs : List Obj} (g : Good E objs) {w : World} {L : Loc} {o : Obj} (hw : E.w.grownBy w none)
    (ho : ObjAt (E.push w L) E.len o) (hb : o.has L → E.w.heap.size ≤ L.b) : Good (E.push w L) (objs ++ [o]) ∧ Step E objs (E.push w L) (objs ++ [o]) := by
  have hS : ∀ b,E.S b → E.S b ∧ w.heap[b]? = E.w.heap[b]? := fun b hb => ⟨hb,hw.block b (g.sl b hb) (by simp)⟩
  have hx : Ext E (E.push w L) := ⟨hS,Nat.le_succ _,fun l hl u' hu' => by
    have hne : l ≠ E.len := by omega
    simp only [Env.push,upd_ne _ _ hne] at hu' ⊢
    exact ⟨u',hu',Nat.le_refl _,fun _ => trivial⟩⟩
  have hget : ∀ l o',(objs ++ [o])[l]? = some o' → (l < objs.length ∧ objs[l]? = some o') ∨ (l = E.len ∧ o' = o) := by
    intro l o' h
    rcases Nat.lt_or_ge l objs.length with hl | hl
    · rw [List.getElem?_append_left hl] at h;exact .inl ⟨hl,h⟩
    · rw [List.getElem?_append_right hl] at h
      have := (List.getElem?_eq_some_iff.1 h).1
      simp at this
      have e : l - objs.length = 0 := by omega
      rw [e] at h;simp at h
      exact .inr ⟨by have := g.len;omega,h.symm⟩
  have hown : ∀ b,ownB (E.push w L) (objs ++ [o]) b → ownB E objs b ∨ E.w.heap.size ≤ b := by
    rintro b ⟨l,o',h1,h2,h3⟩
    rcases hget l o' h1 with ⟨hl,h⟩ | ⟨rfl,rfl⟩
    · have hne : l ≠ E.len := by have := g.len;omega
      simp only [Env.push,upd_ne _ _ hne] at h2 h3
      exact .inl ⟨l,o',h,h2,h3⟩
    · simp only [Env.push,upd_same] at h2 h3
      subst h3
      exact .inr (hb h2)
  refine ⟨⟨by simp [Env.push,g.len],?_,?_,?_,?_⟩,⟨hx,hw.os,hw.tape,hw.output,hw.size,fun b h _ => hw.block b h (by simp),fun b h => (hown b h).elim .inr .inl,fun b h => .inl h⟩⟩
  · intro l o' h
    rcases hget l o' h with ⟨hl,h⟩ | ⟨rfl,rfl⟩
    · have hne : l ≠ E.len := by have := g.len;omega
      have hk := g.at_ l o' h
      exact hk.keep hx (by simp only [Env.push,upd_ne _ _ hne]) (by simp only [Env.push,upd_ne _ _ hne]) (fun hh => hw.block _ (hk.block_lt hh) (by simp))
    · exact ho
  · intro b h hs
    rcases hown b h with h | h
    · exact g.ns b h hs
    · have := g.sl b hs;omega
  · intro b h;exact Nat.lt_of_lt_of_le (g.sl b h) hw.size
  · intro l l' o1 o2 h1 h2 h3 h4 h5
    rcases hget l o1 h1 with ⟨hl,k1⟩ | ⟨rfl,rfl⟩ <;> rcases hget l' o2 h2 with ⟨hl',k2⟩ | ⟨rfl,rfl⟩
    · have hne : l ≠ E.len := by have := g.len;omega
      have hne' : l' ≠ E.len := by have := g.len;omega
      simp only [Env.push,upd_ne _ _ hne,upd_ne _ _ hne'] at h3 h4 h5
      exact g.inj l l' o1 o2 k1 k2 h3 h4 h5
    · have hne : l ≠ E.len := by have := g.len;omega
      simp only [Env.push,upd_ne _ _ hne,upd_same] at h3 h4 h5
      have := (g.at_ l o1 k1).block_lt h3
      have := hb h4
      omega
    · have hne' : l' ≠ E.len := by have := g.len;omega
      simp only [Env.push,upd_ne _ _ hne',upd_same] at h3 h4 h5
      have := (g.at_ l' o2 k2).block_lt h4
      have := hb h3
      omega
    · rfl

theorem Good.put {E : Env} {objs : List Obj} (g : Good E objs) {w : World} {l : Nat} {L : Loc} {o o' : Obj} {u u' : Nat} {row : Option Nat} (hl : objs[l]? = some o)
    (hw : E.w.grownBy w row) (hrow : ∀ b,row = some b → o.has (E.loc l) ∧ b = (E.loc l).b)
    (hu : E.ver l = some u) (hle : u ≤ u') (heq : u = u' → L = E.loc l)
    (ho : ObjAt (E.put w l L u') l o') (hb : o'.has L → (o.has (E.loc l) ∧ L.b = (E.loc l).b) ∨ E.w.heap.size ≤ L.b) :
    Good (E.put w l L u') (objs.set l o') ∧ Step E objs (E.put w l L u') (objs.set l o') := by
  have hlt : l < objs.length := (List.getElem?_eq_some_iff.1 hl).1
  have hSne : ∀ b,E.S b → some b ≠ row := by
    intro b hs e
    obtain ⟨h1,h2⟩ := hrow b e.symm
    exact g.ns b ⟨l,o,hl,h1,h2.symm⟩ hs
  have hS : ∀ b,E.S b → E.S b ∧ w.heap[b]? = E.w.heap[b]? := fun b hs => ⟨hs,hw.block b (g.sl b hs) (hSne b hs)⟩
  have hx : Ext E (E.put w l L u') := ⟨hS,Nat.le_refl _,fun j hj v' hv' => by
    by_cases hne : j = l
    · subst hne
      simp only [Env.put,upd_same] at hv' ⊢
      cases hv'
      exact ⟨u,hu,hle,heq⟩
    · simp only [Env.put,upd_ne _ _ hne] at hv' ⊢
      exact ⟨v',hv',Nat.le_refl _,fun _ => trivial⟩⟩
  have hget : ∀ j p,(objs.set l o')[j]? = some p → (j ≠ l ∧ objs[j]? = some p) ∨ (j = l ∧ p = o') := by
    intro j p h
    rw [List.getElem?_set] at h
    split at h
    · rename_i e;subst e
      exact .inr ⟨rfl,by cases h;rfl⟩
    · rename_i e;exact .inl ⟨fun e' => e e'.symm,h⟩
  have hown : ∀ b,ownB (E.put w l L u') (objs.set l o') b → ownB E objs b ∨ E.w.heap.size ≤ b := by
    rintro b ⟨j,p,h1,h2,h3⟩
    rcases hget j p h1 with ⟨hne,h⟩ | ⟨rfl,rfl⟩
    · simp only [Env.put,upd_ne _ _ hne] at h2 h3
      exact .inl ⟨j,p,h,h2,h3⟩
    · simp only [Env.put,upd_same] at h2 h3
      rcases hb h2 with ⟨h4,h5⟩ | h4
      · exact .inl ⟨j,o,hl,h4,by rw [← h5,h3]⟩
      · exact .inr (h3 ▸ h4)
  refine ⟨⟨by simp [Env.put,g.len],?_,?_,?_,?_⟩,⟨hx,hw.os,hw.tape,hw.output,hw.size,fun b h hn => hw.block b h (fun e => ?_),fun b h => (hown b h).elim .inr .inl,fun b h => .inl h⟩⟩
  · intro j p h
    rcases hget j p h with ⟨hne,h⟩ | ⟨rfl,rfl⟩
    · have hk := g.at_ j p h
      refine hk.keep hx (by simp only [Env.put,upd_ne _ _ hne]) (by simp only [Env.put,upd_ne _ _ hne]) (fun hh => hw.block _ (hk.block_lt hh) (fun e => hne ?_))
      obtain ⟨h6,h7⟩ := hrow _ e.symm
      exact g.inj j l p o h hl hh h6 h7
    · exact ho
  · intro b h hs
    rcases hown b h with h | h
    · exact g.ns b h hs
    · have := g.sl b hs;omega
  · intro b h;exact Nat.lt_of_lt_of_le (g.sl b h) hw.size
  · intro i j o1 o2 h1 h2 h3 h4 h5
    rcases hget i o1 h1 with ⟨hi,k1⟩ | ⟨rfl,rfl⟩ <;> rcases hget j o2 h2 with ⟨hj,k2⟩ | ⟨rfl,rfl⟩
    · simp only [Env.put,upd_ne _ _ hi,upd_ne _ _ hj] at h3 h4 h5
      exact g.inj i j o1 o2 k1 k2 h3 h4 h5
    · simp only [Env.put,upd_ne _ _ hi,upd_same] at h3 h4 h5
      rcases hb h4 with ⟨h6,h7⟩ | h6
      · exact g.inj i j o1 o k1 hl h3 h6 (h5.trans h7)
      · have := (g.at_ i o1 k1).block_lt h3;omega
    · simp only [Env.put,upd_ne _ _ hj,upd_same] at h3 h4 h5
      rcases hb h3 with ⟨h6,h7⟩ | h6
      · exact g.inj i j o o2 hl k2 h6 h4 (h7.symm.trans h5)
      · have := (g.at_ j o2 k2).block_lt h4;omega
    · rfl
  · obtain ⟨h6,h7⟩ := hrow b e.symm
    exact hn ⟨l,o,hl,h6,h7.symm⟩

/-- The object l becomes stable memory. -/
def Env.still (E : Env) (l : Nat) (has : Prop) : Env := ⟨E.w,fun b => E.S b ∨ (has ∧ b = (E.loc l).b),E.len,E.loc,upd E.ver l none⟩

theorem Good.still {E : Env} {objs : List Obj} (g : Good E objs) {l : Nat} {o : Obj} (hl : objs[l]? = some o) :
    Good (E.still l (o.has (E.loc l))) (objs.set l .dead) ∧ Step E objs (E.still l (o.has (E.loc l))) (objs.set l .dead) := by
  have hlt : l < objs.length := (List.getElem?_eq_some_iff.1 hl).1
  have hx : Ext E (E.still l (o.has (E.loc l))) := ⟨fun b hs => ⟨.inl hs,rfl⟩,Nat.le_refl _,fun j hj v' hv' => by
    by_cases hne : j = l
    · subst hne;simp only [Env.still,upd_same] at hv';cases hv'
    · simp only [Env.still,upd_ne _ _ hne] at hv' ⊢
      exact ⟨v',hv',Nat.le_refl _,fun _ => trivial⟩⟩
  have hget : ∀ j p,(objs.set l .dead)[j]? = some p → (j ≠ l ∧ objs[j]? = some p) ∨ (j = l ∧ p = .dead) := by
    intro j p h
    rw [List.getElem?_set] at h
    split at h
    · rename_i e;subst e
      exact .inr ⟨rfl,by cases h;rfl⟩
    · rename_i e;exact .inl ⟨fun e' => e e'.symm,h⟩
  have hown : ∀ b,ownB (E.still l (o.has (E.loc l))) (objs.set l .dead) b → ∃ j p,j ≠ l ∧ objs[j]? = some p ∧ p.has (E.loc j) ∧ (E.loc j).b = b := by
    rintro b ⟨j,p,h1,h2,h3⟩
    rcases hget j p h1 with ⟨hne,h⟩ | ⟨rfl,rfl⟩
    · exact ⟨j,p,hne,h,h2,h3⟩
    · exact h2.elim
  refine ⟨⟨by simp [Env.still,g.len],?_,?_,?_,?_⟩,⟨hx,rfl,rfl,rfl,Nat.le_refl _,fun _ _ _ => rfl,fun b h => ?_,fun b h => ?_⟩⟩
  · intro j p h
    rcases hget j p h with ⟨hne,h⟩ | ⟨rfl,rfl⟩
    · exact (g.at_ j p h).keep hx (by simp only [Env.still,upd_ne _ _ hne]) rfl (fun _ => rfl)
    · simp only [ObjAt,Env.still,upd_same]
  · intro b h hs
    obtain ⟨j,p,hne,h1,h2,h3⟩ := hown b h
    rcases hs with hs | ⟨hh,e⟩
    · exact g.ns b ⟨j,p,h1,h2,h3⟩ hs
    · exact hne (g.inj j l p o h1 hl h2 hh (h3.trans e))
  · rintro b (hs | ⟨hh,rfl⟩)
    · exact g.sl b hs
    · exact (g.at_ l o hl).block_lt hh
  · intro i j o1 o2 h1 h2 h3 h4 h5
    rcases hget i o1 h1 with ⟨hi,h1⟩ | ⟨rfl,rfl⟩
    · rcases hget j o2 h2 with ⟨hj,h2⟩ | ⟨rfl,rfl⟩
      · exact g.inj i j o1 o2 h1 h2 h3 h4 h5
      · exact h4.elim
    · exact h3.elim
  · obtain ⟨j,p,hne,h1,h2,h3⟩ := hown b h
    exact .inr ⟨j,p,h1,h2,h3⟩
  · rcases h with h | ⟨hh,e⟩
    · exact .inl h
    · exact .inr (.inr ⟨l,o,hl,hh,e.symm⟩)

/-- A world with the same memory. -/
def Env.at (E : Env) (w : World) : Env := { E with w := w }
theorem Good.at {E : Env} {objs : List Obj} (g : Good E objs) {w : World} (h : w.heap = E.w.heap) (h1 : w.os = E.w.os) (h2 : w.tape = E.w.tape) (h3 : w.output = E.w.output) :
    Good (E.at w) objs ∧ Step E objs (E.at w) objs := by
  have hx : Ext E (E.at w) := ⟨fun b hs => ⟨hs,by rw [show (E.at w).w = w from rfl,h]⟩,Nat.le_refl _,fun _ _ u hu => ⟨u,hu,Nat.le_refl _,fun _ => rfl⟩⟩
  refine ⟨⟨g.len, fun l o ho => (g.at_ l o ho).keep hx rfl rfl (fun _ => by rw [show (E.at w).w = w from rfl, h]), g.ns, fun b hs => by rw [show (E.at w).w = w from rfl, h]; exact g.sl b hs, g.inj⟩,
    ⟨hx,h1,h2,h3,by rw [show (E.at w).w = w from rfl,h];exact Nat.le_refl _,fun b _ _ => by rw [show (E.at w).w = w from rfl,h],fun b hb => .inr hb,fun b hb => .inl hb⟩⟩

/-! ## Every operation that the evaluator takes runs so -/
/-- A computation that ends in a value. -/
def RanV (P : Program) (s : Sem Value) (E : Env) (objs : List Obj) (out : Out) : Prop :=
  ∃ E' v,s.run P E.w = .ok v E'.w ∧ Good E' out.objs ∧ Step E objs E' out.objs ∧ Rep E' out.v v
def RanU (P : Program) (s : Sem Unit) (E : Env) (objs : List Obj) (out : Out) : Prop :=
  ∃ E',s.run P E.w = .ok () E'.w ∧ Good E' out.objs ∧ Step E objs E' out.objs

variable {P : Program} {τ : TyTab} {E : Env} {objs : List Obj}

theorem RanV.same {s : Sem Value} {v : Value} {a : V} {p : Option Prop} (g : Good E objs) (h : s.run P E.w = .ok v E.w) (r : Rep E a v) : RanV P s E objs ⟨p,a,objs⟩ :=
  ⟨E,v,h,g,.refl _ _,r⟩

theorem info_run {t : TypeId} {i : TypeInfo} (h : P.info? t = some i) (w : World) : (typeInfo t).run P w = .ok i w := by simp [typeInfo,h]
theorem sizeOf_run {t : TypeId} {i : TypeInfo} (h : P.info? t = some i) (w : World) : (sizeOf t).run P w = .ok i.size w := by simp [sizeOf,info_run h]
theorem zero_run {t : TypeId} {i : TypeInfo} {z : Value} (h : P.info? t = some i) (hz : i.zero = some z) (w : World) : (zeroValue t).run P w = .ok z w := by simp [zeroValue,info_run h,hz]

def descAgg : TypeDesc → Bool
  | .struct _ | .array _ _ => true
  | _ => false
theorem TI.Ok.desc {t : TypeId} {i : TI} (h : i.Ok P t) : i.k.known = true → ∃ d,P.underlying t = some d ∧ descAgg d = i.isAgg := by
  have hk := h.kind
  obtain ⟨k,size,bytes,zero,code⟩ := i
  cases k <;> simp only [TI.isAgg] at hk ⊢
  case int k => exact fun _ => ⟨_,hk,rfl⟩
  case bool => exact fun _ => ⟨_,hk,rfl⟩
  case str => exact fun _ => ⟨_,hk,rfl⟩
  case sl => exact fun _ => ⟨_,hk,rfl⟩
  case arr => exact fun _ => ⟨_,hk,rfl⟩
  case st => obtain ⟨fs,h1,_⟩ := hk;exact fun _ => ⟨_,h1,rfl⟩
  case ptr => obtain ⟨e,h1⟩ := hk;exact fun _ => ⟨_,h1,rfl⟩
  case map => exact fun _ => ⟨_,hk,rfl⟩
  case fn => obtain ⟨_,_,_,h1⟩ := hk;exact fun _ => ⟨_,h1,rfl⟩
  case other => intro h;cases h

theorem isAgg_run {t : TypeId} {d : TypeDesc} (h : P.underlying t = some d) (w : World) : (isAgg t).run P w = .ok (descAgg d) w := by
  simp only [isAgg,Sem.run_bind,run_underlying h,Result.andThen_ok]
  cases d <;> rfl

/-- A variable is loaded: the cells at its place. -/
theorem loadVar_run {t : TypeId} {ti : TI} (ht : ti.Ok P t) (hk : ti.k.known = true) (w : World) (b off : Nat) (cs : List Value) (hl : cs.length = ti.size)
    (h : ∀ j u,cs[j]? = some u → w.cell? ⟨b,off + j,none⟩ = some u) (ho : ti.isAgg = true ∨ cs.length = 1) :
    (loadVar t ⟨b,off,none⟩).run P w = .ok (if ti.isAgg then .agg cs.toArray else cs.getD 0 undef) w := by
  obtain ⟨d,hd,ha⟩ := ht.desc hk
  obtain ⟨info,z,hi,hs,_⟩ := ht.info
  have hcells := run_loadCells_list (P := P) w ⟨b,off,none⟩ cs (fun j v hj => by rw [Addr.add_lit];exact h j v hj)
  cases hb : ti.isAgg with
  | true =>
    rw [hb] at ha
    simp [loadVar,isAgg_run hd,ha,sizeOf_run hi,hs,← hl,hcells]
  | false =>
    rw [hb] at ha ho
    have h1 : cs.length = 1 := ho.resolve_left (by simp)
    obtain ⟨c,rfl⟩ := List.length_eq_one_iff.1 h1
    have := h 0 c (by simp)
    simp only [Nat.add_zero] at this
    simp [loadVar,Sem.run_bind,isAgg_run hd,ha,Result.andThen_ok,this]

theorem ofCells_rep {agg : Bool} {cs : List V} {v : V} {vals : List Value} (h : ofCells agg cs = some v) (r : Reps E cs vals) :
    Rep E v (if agg then .agg vals.toArray else vals.getD 0 undef) ∧ (agg = true ∨ vals.length = 1) := by
  unfold ofCells at h
  cases agg with
  | true =>
    simp only [if_true,Option.some.injEq] at h ⊢
    subst h
    exact ⟨.agg (by simpa using r.1) (fun j hj => by simpa using r.2 j hj),.inl trivial⟩
  | false =>
    simp only [Bool.false_eq_true,if_false] at h ⊢
    split at h
    · cases h
      exact ⟨by simpa using r.2 0 (by simp),.inr (by simpa using r.1)⟩
    · cases h

theorem takeN_inv {n : Nat} {l cs : List V} (h : takeN n l = some cs) : cs = l.take n ∧ cs.length = n := by
  unfold takeN at h
  split at h
  · cases h;exact ⟨rfl,by simp;omega⟩
  · cases h

theorem cell_row {w : World} {b : Nat} {vals : Array Value} {t : TypeId} {fr : Nat × Nat} (h : w.heap[b]? = some (.cells vals t fr)) (o : Nat) : w.cell? ⟨b,o,none⟩ = vals[o]? := by
  simp [World.cell?,h]

/-- Cells of a stretch of a row. -/
theorem Reps.at_cells {w : World} {b : Nat} {vals : Array Value} {t : TypeId} {fr : Nat × Nat} {cs : List V} (h : w.heap[b]? = some (.cells vals t fr)) (r : Reps E cs vals.toList) (off n : Nat) :
    Reps E ((cs.drop off).take n) ((vals.toList.drop off).take n) ∧ ∀ j u,((vals.toList.drop off).take n)[j]? = some u → w.cell? ⟨b,off + j,none⟩ = some u := by
  refine ⟨(r.drop off).take n,fun j u hj => ?_⟩
  rw [cell_row h]
  rw [List.getElem?_take] at hj
  split at hj
  · simpa using hj
  · cases hj

theorem box_reps {l : Nat} {cs : List V} (h : ObjAt E l (.box cs)) : ∃ vals t,E.w.heap[(E.loc l).b]? = some (.cells vals t (0,0)) ∧ Reps E cs vals.toList := by
  obtain ⟨_,vals,t,h1,h2,h3⟩ := h
  exact ⟨vals,t,h1,by simpa using h2,fun j hj => by simpa [Array.getD_eq_getD_getElem?,List.getD_eq_getElem?_getD] using h3 j hj⟩

/-- An element of an own row. -/
theorem row_elem {l : Nat} {T : Ty} {xs : List T.den} {ver : Nat} (h : ObjAt E l (.row T xs ver)) {i : Nat} (hi : i < xs.length) :
    ∃ cs,Cells E.w E.S T (xs.getD i T.dflt) cs ∧ ∀ j u,cs[j]? = some u → E.w.cell? ⟨(E.loc l).b,i * T.size + j,none⟩ = some u := by
  obtain ⟨_,_,_,e,cs,h1,h2⟩ := h
  obtain ⟨c,hc,hj⟩ := h1.get i xs[i] (List.getElem?_eq_getElem hi)
  rcases h2 with ⟨a,_,rfl⟩ | ⟨cap,cur,_,h3,_,_,_,_,h4⟩
  · simp at hi
  · refine ⟨c,by rw [List.getD_eq_getElem?_getD,List.getElem?_eq_getElem hi];exact hc,fun j u hu => ?_⟩
    rw [cell_row h3]
    have := hj j u hu
    rw [← h4,List.getElem?_take] at this
    split at this
    · simpa using this
    · cases this

/-- What the loads have in common: the place's cells are the wanted leaves. -/
theorem load_ok {t : TypeId} {ti : TI} (ht : ti.Ok P t) (hk : ti.k.known = true) (g : Good E objs) {b off : Nat} {cs : List V} {vals : List Value} {a : V} {p : Option Prop} (r : Reps E cs vals)
    (h : ∀ j u,vals[j]? = some u → E.w.cell? ⟨b,off + j,none⟩ = some u) (hl : cs.length = ti.size) (ha : ofCells ti.isAgg cs = some a) :
    RanV P (Instr.loadAt t (.pointer (some ⟨b,off,none⟩))) E objs ⟨p,a,objs⟩ := by
  obtain ⟨r1,r2⟩ := ofCells_rep ha r
  have := loadVar_run ht hk E.w b off vals (r.1.trans hl) h r2
  refine .same g (v := if ti.isAgg then .agg vals.toArray else vals.getD 0 undef) ?_ (by split <;> simp_all)
  simp only [Instr.loadAt,Instr.sureAddr,Sem.run_bind,Sem.run_pure,Result.andThen_ok,this]

theorem ref_inv {l ver off : Nat} {c : Value} {u : Nat} (r : Rep E (.ref l ver off) c) (hv : E.ver l = some u) (e : ver = u) : c = .pointer (some ⟨(E.loc l).b,off,none⟩) := by
  cases r with | ref _ _ h => exact (h u hv).2 e
theorem rref_inv {l ver i off : Nat} {c : Value} {u : Nat} (r : Rep E (.rref l ver i off) c) (hv : E.ver l = some u) (e : ver = u) : c = .pointer (some ⟨(E.loc l).b,i * (E.loc l).esz + off,none⟩) := by
  cases r with | rref _ _ h => exact (h u hv).2 e
theorem osl_inv {l ver : Nat} {c : Value} {u : Nat} (r : Rep E (.osl l ver) c) (hv : E.ver l = some u) (e : ver = u) : c = (E.loc l).v := by
  cases r with | osl _ _ h => exact (h u hv).2 e
theorem osp_inv {l ver n : Nat} {c : Value} {u : Nat} (r : Rep E (.osp l ver n) c) (hv : E.ver l = some u) (e : ver = u) : c = partSlice (E.loc l).v n := by
  cases r with | osp _ _ h => exact (h u hv).2 e
theorem er_inv {cs : List V} {c : Value} (r : Rep E (.er cs) c) : ∃ b off vals,c = .pointer (some ⟨b,off,none⟩) ∧ E.S b ∧ Reps E cs vals ∧ ∀ j u,vals[j]? = some u → E.w.cell? ⟨b,off + j,none⟩ = some u := by
  cases r with
  | er f h1 h2 h3 =>
    rename_i b off
    refine ⟨b,off,(List.range cs.length).map f,rfl,h1,⟨by simp,fun j hj => ?_⟩,fun j u hj => ?_⟩
    · rw [List.getD_eq_getElem?_getD (l := List.map f _),List.getElem?_map,List.getElem?_range hj];exact h3 j hj
    · rw [List.getElem?_map] at hj
      rcases Nat.lt_or_ge j cs.length with hl | hl
      · rw [List.getElem?_range hl] at hj;simp at hj;subst hj;exact h2 j hl
      · rw [List.getElem?_eq_none (by simpa using hl)] at hj;simp at hj

theorem effLoad_ok (hτ : TabOk P τ) {t : TypeId} {v : V} {out : Out} (h : effLoad τ objs t v = some out) (ho : okP out.ob) (g : Good E objs) {c : Value} (r : Rep E v c) :
    RanV P (Instr.loadAt t c) E objs out := by
  unfold effLoad at h
  split at h
  · cases h
  · rename_i ti hti
    have ht := hτ t ti hti
    split at h
    · rename_i hk
      split at h
      · -- a box
        split at h
        · rename_i cs hcs
          simp only [Option.map_eq_some_iff,Option.bind_eq_some_iff] at h
          obtain ⟨a,⟨ds,h1,h2⟩,rfl⟩ := h
          obtain ⟨rfl,h3⟩ := takeN_inv h1
          have hat := g.at_ _ _ hcs
          obtain ⟨vals,t',h4,h5⟩ := box_reps hat
          obtain ⟨h6,h7⟩ := h5.at_cells h4 _ _
          rw [ref_inv r hat.1 rfl]
          exact load_ok ht hk g h6 h7 h3 h2
        · cases h
      · rename_i cs
        simp only [Option.map_eq_some_iff,Option.bind_eq_some_iff] at h
        obtain ⟨a,⟨ds,h1,h2⟩,rfl⟩ := h
        obtain ⟨rfl,h3⟩ := takeN_inv h1
        obtain ⟨b,off,vals,rfl,_,h4,h5⟩ := er_inv r
        refine load_ok ht hk g (h4.take _) (fun j u hj => ?_) h3 h2
        rw [List.getElem?_take] at hj
        split at hj
        · exact h5 j u hj
        · cases hj
      · rename_i l ver i off
        split at h
        · rename_i T xs ver' hcs
          split at h
          · rename_i hv
            simp only [Option.map_eq_some_iff,Option.bind_eq_some_iff] at h
            obtain ⟨a,⟨ds,h1,h2⟩,rfl⟩ := h
            obtain ⟨rfl,h3⟩ := takeN_inv h1
            have hat := g.at_ _ _ hcs
            obtain ⟨cs,h4,h5⟩ := row_elem hat (show i < xs.length from ho)
            rw [rref_inv r hat.1 hv,hat.2.1]
            refine load_ok ht hk g (((flat_rep h4).drop off).take _) (fun j u hj => ?_) h3 h2
            rw [List.getElem?_take] at hj
            split at hj
            · rw [Nat.add_assoc]
              exact h5 _ u (by simpa using hj)
            · cases hj
          · cases h
        · cases h
      · cases h
    · cases h

theorem grown_setRow (w : World) (g : Nat) (cs : Array Value) : w.grownBy (w.setRow g cs) (some g) :=
  ⟨rfl,rfl,rfl,by simp,fun k _ hk => setRow_other w g k _ (fun e => hk (by rw [e]))⟩

theorem putCells_inv {cs new cs' : List V} {off : Nat} (h : putCells cs off new = some cs') : off + new.length ≤ cs.length ∧ cs' = cs.take off ++ new ++ cs.drop (off + new.length) := by
  unfold putCells at h
  split at h
  · cases h;exact ⟨‹_›,rfl⟩
  · cases h

theorem Reps.put {cs new cs' : List V} {vals vs : List Value} {off : Nat} (h : putCells cs off new = some cs') (r : Reps E cs vals) (rn : Reps E new vs) :
    Reps E cs' (vals.take off ++ vs ++ vals.drop (off + vs.length)) ∧ off + vs.length ≤ vals.length := by
  obtain ⟨h1,rfl⟩ := putCells_inv h
  rw [rn.1,r.1]
  exact ⟨((r.take off).append rn).append (r.drop _),h1⟩

/-- A store of cells into a row of one's own. -/
theorem storeVar_run {t : TypeId} {ti : TI} (ht : ti.Ok P t) (w : World) (b off : Nat) (e : TypeId) (cur : Array Value) (v : Value) (hl : v.cells.toList.length = ti.size)
    (hb : w.heap[b]? = some (.cells cur e (0,0))) (hfit : off + v.cells.toList.length ≤ cur.size) (h1 : ∀ u ∈ v.cells.toList,u.oneCell' = true) :
    (storeVar t ⟨b,off,none⟩ v).run P w = .ok () (w.setRow b (cur.toList.take off ++ v.cells.toList ++ cur.toList.drop (off + v.cells.toList.length)).toArray) := by
  obtain ⟨info,z,hi,hs,_⟩ := ht.info
  have hst := run_storeCells_at P b off e v.cells.toList 0 cur w hb (by simpa using hfit) h1
  simp only [Nat.add_zero] at hst
  have : v.cells.size = ti.size := by simpa using hl
  simp [storeVar,sizeOf_run hi,hs,this,hst]

theorem effStore_ok (hτ : TabOk P τ) {t : TypeId} {a x : V} {out : Out} (h : effStore τ objs t a x = some out) (ho : okP out.ob) (g : Good E objs) {c d : Value} (ra : Rep E a c) (rx : Rep E x d) :
    RanU P (Instr.storeAt t c d) E objs out := by
  unfold effStore at h
  split at h
  · cases h
  · rename_i ti hti
    have ht := hτ t ti hti
    split at h
    · cases h
    · rename_i new hnew
      obtain ⟨rn,hone⟩ := scells_reps hnew rx
      split at h
      · rename_i hsz
        have hl : d.cells.toList.length = ti.size := rn.1.trans hsz
        split at h
        · rename_i l off
          split at h
          · rename_i cs hcs
            simp only [Option.map_eq_some_iff] at h
            obtain ⟨cs',h1,rfl⟩ := h
            have hat := g.at_ _ _ hcs
            obtain ⟨vals,t',h4,h5⟩ := box_reps hat
            obtain ⟨h6,h7⟩ := h5.put h1 rn
            have hrun := storeVar_run ht E.w _ off t' vals d hl h4 (by simpa using h7) hone
            have hgr := grown_setRow E.w (E.loc l).b (vals.toList.take off ++ d.cells.toList ++ vals.toList.drop (off + d.cells.toList.length)).toArray
            have hrow : ∀ b,some (E.loc l).b = some b → (Obj.box cs).has (E.loc l) ∧ b = (E.loc l).b := fun b e => ⟨trivial,by cases e;rfl⟩
            have hx := put_ext g hcs hgr hrow hat.1 (Nat.le_refl 0) (fun _ => rfl)
            have h8 := h6.mono hx
            have hnew := Good.put g (o' := .box cs') hcs hgr hrow hat.1 (Nat.le_refl 0) (fun _ => rfl) ⟨by simp [Env.put,upd_same],_,t',by simp only [Env.put,upd_same];exact setRow_heap _ _ _ _ _ _ h4,by simpa using h8.1,fun j hj => by simpa [Array.getD_eq_getD_getElem?,List.getD_eq_getElem?_getD] using h8.2 j hj⟩ (fun _ => .inl ⟨trivial,rfl⟩)
            exact ⟨_,by rw [ref_inv ra hat.1 rfl];simp only [Instr.storeAt,Instr.sureAddr,Sem.run_bind,Sem.run_pure,Result.andThen_ok];exact hrun,hnew.1,hnew.2⟩
          · cases h
        · rename_i l ver i off
          split at h
          · rename_i T xs ver' hcs
            split at h
            · rename_i hv
              simp only [Option.map_eq_some_iff,Option.bind_eq_some_iff] at h
              obtain ⟨y,⟨cs',h1,h2⟩,rfl⟩ := h
              have hi : i < xs.length := ho
              have hat := g.at_ _ _ hcs
              obtain ⟨ce,h4,h5⟩ := row_elem hat hi
              obtain ⟨h6,h7⟩ := (flat_rep h4).put h1 rn
              have h8 := pack_rep h2 h6
              have hcel := h4.length
              obtain ⟨hver,hesz,hpos,e,cs,h9,h10⟩ := id hat
              rcases h10 with ⟨_,_,rfl⟩ | ⟨cap,cur,hv1,hv2,hv3,hv4,hv5,hv6,hv7⟩
              · simp at hi
              · have hmul : i * T.size + T.size ≤ xs.length * T.size := by rw [← Nat.succ_mul];exact Nat.mul_le_mul_right _ hi
                have hcap : xs.length * T.size ≤ cap * T.size := Nat.mul_le_mul_right _ hv3
                have hfit : i * T.size + off + d.cells.toList.length ≤ cur.size := by rw [hv6];omega
                have hrun := storeVar_run ht E.w _ (i * T.size + off) e cur d hl hv2 hfit hone
                have hgr := grown_setRow E.w (E.loc l).b (cur.toList.take (i * T.size + off) ++ d.cells.toList ++ cur.toList.drop (i * T.size + off + d.cells.toList.length)).toArray
                have hhas : (Obj.row T xs ver').has (E.loc l) := by
                  rintro ⟨a,ha⟩;rw [hv1] at ha;injection ha with _ e1;omega
                have hrow : ∀ b,some (E.loc l).b = some b → (Obj.row T xs ver').has (E.loc l) ∧ b = (E.loc l).b := fun b e => ⟨hhas,by cases e;rfl⟩
                have hx := put_ext g hcs hgr hrow hat.1 (Nat.le_refl ver') (fun _ => rfl)
                have hsp := splice_get (A := cur.toList) (vs := d.cells.toList) (o := i * T.size + off) (by simpa using hfit)
                have hspe := splice_get (A := ce) (vs := d.cells.toList) (o := off) h7
                have h11 : CellsL (E.put (E.w.setRow (E.loc l).b (cur.toList.take (i * T.size + off) ++ d.cells.toList ++ cur.toList.drop (i * T.size + off + d.cells.toList.length)).toArray) l (E.loc l) ver').w E.S T (xs.set i y)
                    ((cur.toList.take (i * T.size + off) ++ d.cells.toList ++ cur.toList.drop (i * T.size + off + d.cells.toList.length)).take (xs.length * T.size)) := by
                  refine CellsL.of_get (by simp only [List.length_take,List.length_append,List.length_drop,List.length_set,Array.length_toList];omega) (fun i' x hx' => ?_)
                  rw [List.getElem?_set] at hx'
                  split at hx'
                  · rename_i hii
                    subst hii
                    have hxy : y = x := by simpa [hi] using hx'
                    subst hxy
                    refine ⟨_,h8.mono hx.S,fun j u hu => ?_⟩
                    have hjl : j < T.size := by
                      have := (List.getElem?_eq_some_iff.1 hu).1
                      have := (h8.mono hx.S).length
                      omega
                    rw [List.getElem?_take,if_pos (by omega),hsp]
                    rw [hspe] at hu
                    by_cases c1 : j < off
                    · rw [if_pos c1] at hu
                      rw [if_pos (by omega)]
                      have := h5 j u hu
                      rw [cell_row hv2] at this
                      simpa using this
                    · rw [if_neg c1] at hu
                      rw [if_neg (by omega)]
                      by_cases c2 : j < off + d.cells.toList.length
                      · rw [if_pos c2] at hu
                        rw [if_pos (by omega),show i * T.size + j - (i * T.size + off) = j - off from by omega]
                        exact hu
                      · rw [if_neg c2] at hu
                        rw [if_neg (by omega)]
                        have := h5 j u hu
                        rw [cell_row hv2] at this
                        simpa using this
                  · rename_i hii
                    obtain ⟨c,hc,hj⟩ := h9.get i' x hx'
                    have hi' : i' < xs.length := (List.getElem?_eq_some_iff.1 hx').1
                    have hcl := hc.length
                    refine ⟨c,hc.mono hx.S,fun j u hu => ?_⟩
                    have hjl : j < T.size := by have := (List.getElem?_eq_some_iff.1 hu).1;omega
                    have hm' : i' * T.size + T.size ≤ xs.length * T.size := by rw [← Nat.succ_mul];exact Nat.mul_le_mul_right _ hi'
                    have hne : i' * T.size + T.size ≤ i * T.size ∨ i * T.size + T.size ≤ i' * T.size := by
                      rcases Nat.lt_or_ge i' i with hlt | hge
                      · left;rw [← Nat.succ_mul];exact Nat.mul_le_mul_right _ hlt
                      · right;rw [← Nat.succ_mul];exact Nat.mul_le_mul_right _ (by omega)
                    have h12 := hj j u hu
                    rw [← hv7,List.getElem?_take,if_pos (by omega)] at h12
                    rw [List.getElem?_take,if_pos (by omega),hsp]
                    rcases hne with hne | hne
                    · rw [if_pos (by omega)];exact h12
                    · rw [if_neg (by omega),if_neg (by omega)];exact h12
                have hnew := Good.put g (o' := .row T (xs.set i y) ver') hcs hgr hrow hat.1 (Nat.le_refl ver') (fun _ => rfl)
                  ⟨by simp [Env.put, upd_same], by simp only [Env.put, upd_same]; exact hesz, hpos, e, _, h11, .inr ⟨cap, _, by simp only [Env.put, upd_same, List.length_set]; exact hv1,
                    by simp only [Env.put,upd_same];exact setRow_heap _ _ _ _ _ _ hv2,by simpa using hv3,hv4,hv5,by have hq := d.cells.length_toList;simp only [List.size_toArray,List.length_append,List.length_take,List.length_drop,Array.length_toList];omega,by simp⟩⟩
                  (fun _ => .inl ⟨hhas,rfl⟩)
                subst hv
                refine ⟨_,by rw [rref_inv ra hat.1 rfl,hesz];simp only [Instr.storeAt,Instr.sureAddr,Sem.run_bind,Sem.run_pure,Result.andThen_ok];exact hrun,hnew.1,hnew.2⟩
            · cases h
          · cases h
        · cases h
      · cases h

theorem effFieldAddr_ok (hτ : TabOk P τ) {s : TypeId} {v : V} {f : Nat} {out : Out} (h : effFieldAddr τ objs s v f = some out) (ho : okP out.ob) (g : Good E objs) {c : Value} (r : Rep E v c) :
    RanV P (Instr.fieldAt s c f) E objs out := by
  unfold effFieldAddr at h
  split at h
  · rename_i offs size bytes zero code hs
    have ht := (hτ s _ hs).kind
    obtain ⟨fs,h1,h2,h3⟩ := ht
    split at h
    · rename_i o sz ho'
      have hnz := h3 (o,sz) (List.mem_of_getElem? ho')
      have hfo : ∃ fl,fs[f]? = some fl ∧ fl.offset = o ∧ P.cellsOf fl.type = sz := by
        rw [← h2] at ho'
        simp only [List.getElem?_map,Option.map_eq_some_iff,Prod.mk.injEq] at ho'
        obtain ⟨fl,h4,h5,h6⟩ := ho'
        exact ⟨fl,by simpa using h4,h5,h6⟩
      obtain ⟨fl,hf,hoff,hcs⟩ := hfo
      obtain ⟨fi,hfi,hfz⟩ : ∃ i,P.info? fl.type = some i ∧ i.size ≠ 0 := by
        cases hq : P.info? fl.type with
        | none => simp [Program.cellsOf,hq] at hcs;exact absurd hcs.symm hnz
        | some i => simp [Program.cellsOf,hq] at hcs;exact ⟨i,rfl,fun e => hnz (by simpa [← hcs] using e)⟩
      have hrun : ∀ b off,(Instr.fieldAt s (.pointer (some ⟨b,off,none⟩)) f).run P E.w = .ok (.pointer (some ⟨b,off + o,none⟩)) E.w := by
        intro b off
        simp [Instr.fieldAt,run_underlying h1,hf,Instr.sureAddr,fieldPlace,sizeOf_run hfi,hfz,Addr.add_lit,hoff]
      split at h
      · rename_i l off
        split at h
        · rename_i cs hcs
          cases h
          have hc := ref_inv r (g.at_ _ _ hcs).1 rfl
          subst hc
          refine .same g (hrun _ _) ?_
          cases r with
          | ref h1 h2 h3 => exact .ref rfl h2 (fun u hu => ⟨(h3 u hu).1,fun _ => rfl⟩)
        · cases h
      · cases h
        cases r with
        | er fc h4 h5 h6 =>
          rename_i cs b off
          refine .same g (hrun _ _) (.er (fun j => fc (o + j)) h4 (fun j hj => ?_) (fun j hj => ?_))
          · simp only [List.length_drop] at hj
            rw [Nat.add_assoc];exact h5 _ (by omega)
          · simp only [List.length_drop] at hj
            have := h6 (o + j) (by omega)
            simpa [List.getD_eq_getElem?_getD] using this
      · rename_i l ver i off
        split at h
        · rename_i T xs ver' hcs
          split at h
          · rename_i hv
            cases h
            have hc := rref_inv r (g.at_ _ _ hcs).1 hv
            subst hc
            refine .same g (hrun _ _) ?_
            cases r with
            | rref h1 h2 h3 => exact .rref rfl h2 (fun u hu => ⟨(h3 u hu).1,fun _ => by rw [Nat.add_assoc]⟩)
          · cases h
        · cases h
      · cases h
    · cases h
  · cases h

/-- What a stable slice is. -/
theorem sl_inv {T : Ty} {l : List T.den} {c : Value} (r : Rep E (.d (.sl T) l) c) : Cells E.w E.S (.sl T) l [c] := by cases r with | d h => exact h

theorem cells_er {T : Ty} {x : T.den} {b off : Nat} {cs : List Value} (hb : E.S b) (h : Cells E.w E.S T x cs) (hc : ∀ j u, cs[j]? = some u → E.w.cell? ⟨b, off + j, none⟩ = some u) :
    Rep E (.er (flat T x)) (.pointer (some ⟨b,off,none⟩)) := by
  have r := flat_rep h
  refine .er (fun j => cs.getD j undef) hb (fun j hj => ?_) (fun j hj => r.2 j hj)
  have hj' : j < cs.length := by rw [r.1];exact hj
  exact hc j _ (by simp [List.getD_eq_getElem?_getD,List.getElem?_eq_getElem hj'])

theorem index_run {t e : TypeId} {ei : TI} (ht : P.underlying t = some (.slice e)) (hei : ei.Ok P e) {b off n cap : Nat} {k : IntKind} {i : Int} (w : World) (h0 : 0 ≤ i) (h1 : i < (n : Int)) :
    (Instr.indexAt t (.slice (some ⟨b,off,none⟩) n cap) (.int k i)).run P w = .ok (.pointer (some ⟨b,off + i.toNat * ei.size,none⟩)) w := by
  obtain ⟨info,z,hi,hs,_⟩ := hei.info
  simp [Instr.indexAt,asIntOf,run_underlying ht,h0,h1,sizeOf_run hi,hs,Addr.add_lit]

theorem effIndexAddr_ok (hτ : TabOk P τ) {t : TypeId} {x ix : V} {out : Out} (h : effIndexAddr τ objs t x ix = some out) (ho : okP out.ob) (g : Good E objs) {c d : Value} (rx : Rep E x c) (ri : Rep E ix d) :
    RanV P (Instr.indexAt t c d) E objs out := by
  unfold effIndexAddr at h
  split at h
  · rename_i e size bytes zero code k i hs hix
    have ht : P.underlying t = some (.slice e) := (hτ t _ hs).kind
    have hd := asInt_inv hix ri
    subst hd
    split at h
    · rename_i ei hei
      have hei := hτ e ei hei
      split at h
      · rename_i T l
        split at h
        · rename_i hsz
          cases h
          obtain ⟨h0,h1⟩ : 0 ≤ i ∧ i < (List.length (α := T.den) l : Int) := ho
          obtain ⟨a,cap,hc,hcap,hl⟩ := sl_inv rx
          have hc' : c = .slice a (List.length (α := T.den) l) cap := by simpa using hc
          subst hc'
          have hlt : i.toNat < List.length (α := T.den) l := by omega
          obtain ⟨b,off,rfl,hS,hx⟩ := hl (fun e => by rw [e] at hlt;simp at hlt)
          obtain ⟨cs,h2,h3⟩ := hx i.toNat (List.getD (α := T.den) l i.toNat T.dflt) (by rw [List.getD_eq_getElem?_getD,List.getElem?_eq_getElem hlt];rfl)
          refine .same g (index_run ht hei E.w h0 h1) ?_
          rw [← hsz]
          exact cells_er hS h2 h3
        · cases h
      · rename_i l ver
        split at h
        · rename_i T xs ver' hcs
          split at h
          · rename_i hv
            cases h
            obtain ⟨h0,h1⟩ : 0 ≤ i ∧ i < (xs.length : Int) := ho
            have hat := g.at_ _ _ hcs
            have hc := osl_inv rx hat.1 hv.1
            subst hc
            obtain ⟨hver,hesz,hpos,e',cs,h9,h10⟩ := id hat
            rcases h10 with ⟨_,_,rfl⟩ | ⟨cap,cur,hv1,hv2,_⟩
            · simp at h1;omega
            · rw [hv1]
              refine .same g (index_run ht hei E.w h0 h1) ?_
              rw [Nat.zero_add,← hv.2,← hesz]
              exact .rref rfl (by rw [← g.len];exact (List.getElem?_eq_some_iff.1 hcs).1) (fun u hu => by
                rw [hver] at hu;cases hu;exact ⟨by omega,fun _ => by rw [Nat.add_zero]⟩)
          · cases h
        · cases h
      · rename_i l ver n
        split at h
        · rename_i T xs ver' hcs
          split at h
          · rename_i hv
            cases h
            obtain ⟨h0,h1,h2⟩ : 0 ≤ i ∧ i < (n : Int) ∧ n ≤ xs.length := ho
            have hat := g.at_ _ _ hcs
            have hc := osp_inv rx hat.1 hv.1
            subst hc
            obtain ⟨hver,hesz,hpos,e',cs,h9,h10⟩ := id hat
            rcases h10 with ⟨_,_,rfl⟩ | ⟨cap,cur,hv1,hv2,_⟩
            · simp at h2;omega
            · rw [hv1]
              refine .same g (index_run ht hei E.w h0 h1) ?_
              rw [Nat.zero_add,← hv.2,← hesz]
              exact .rref rfl (by rw [← g.len];exact (List.getElem?_eq_some_iff.1 hcs).1) (fun u hu => by
                rw [hver] at hu;cases hu;exact ⟨by omega,fun _ => by rw [Nat.add_zero]⟩)
          · cases h
        · cases h
      · cases h
    · cases h
  · rename_i n e size bytes zero code k i hs hix
    have ht : P.underlying t = some (.array n e) := (hτ t _ hs).kind
    have hd := asInt_inv hix ri
    subst hd
    split at h
    · rename_i ei hei
      have hei := hτ e ei hei
      split at h
      · rename_i l ver
        split at h
        · rename_i T xs ver' hcs
          split at h
          · rename_i hv
            cases h
            obtain ⟨h0,h1⟩ : 0 ≤ i ∧ i < (n : Int) := ho
            have hat := g.at_ _ _ hcs
            have hc := rref_inv rx hat.1 hv.1
            subst hc
            obtain ⟨hver,hesz,hpos,e',cs,h9,h10⟩ := id hat
            obtain ⟨info,z,hi,hs',_⟩ := hei.info
            refine .same (v := .pointer (some ⟨(E.loc l).b,i.toNat * T.size,none⟩)) g ?_ ?_
            · simp [Instr.indexAt,asIntOf,run_underlying ht,h0,h1,sizeOf_run hi,hs',Addr.add_lit,Instr.sureAddr,hv.2]
            · rw [← hesz]
              exact .rref rfl (by rw [← g.len];exact (List.getElem?_eq_some_iff.1 hcs).1) (fun u hu => by
                rw [hver] at hu;cases hu;exact ⟨by omega,fun _ => by rw [Nat.add_zero]⟩)
          · cases h
        · cases h
      · cases h
    · cases h
  · cases h

end Go.Proofs.Ytlncingakpelbaa

namespace Go.Proofs.Ytlncingakpelbaa
open Go
set_option linter.unusedVariables false

variable {P : Program} {τ : TyTab} {E : Env} {objs : List Obj}

theorem fits_wrap {k : IntKind} {n : Int} (h : fits k n) : k.wrap n = n := by
  cases k
  · exact IntWalk.i8_in n h
  · exact IntWalk.i16_in n h
  · exact IntWalk.i32_in n h
  · exact IntWalk.i64_in n h
  · exact IntWalk.u8_in n h
  · exact IntWalk.u16_in n h
  · exact IntWalk.u32_in n h
  · exact IntWalk.u64_in n h

theorem wr_ok {hx : Bool} {k : IntKind} {n : Int} (h : okP (wr hx k n).1) : k.wrap n = (wr hx k n).2 := by
  cases hx with
  | true => exact fits_wrap h
  | false => rfl

theorem effInt_ok {op : BinOp} {hx : Bool} {k : IntKind} {a b : Int} {r : Option Prop × V} (h : effInt op hx k a b = some r) (ho : okP r.1) (xt : TypeId) (w : World)
    (hs : op ≠ .shl ∧ op ≠ .shr) : ∃ c,(binOp op xt (.int k a) (.int k b)).run P w = .ok c w ∧ ∀ E,Rep E r.2 c := by
  cases op <;> simp only [effInt,Option.some.injEq,reduceCtorEq] at h <;> try subst h
  case add => exact ⟨_,by simp [binOp,Op.intArith];rfl,fun E => by rw [wr_ok ho];exact .mk_int _ _⟩
  case sub => exact ⟨_,by simp [binOp,Op.intArith];rfl,fun E => by rw [wr_ok ho];exact .mk_int _ _⟩
  case mul => exact ⟨_,by simp [binOp,Op.intArith];rfl,fun E => by rw [wr_ok ho];exact .mk_int _ _⟩
  case quo =>
    have ho' : b ≠ 0 ∧ okP (wr hx k (a.tdiv b)).1 := by cases hx <;> first | exact ⟨ho,trivial⟩ | exact ho
    exact ⟨_,by simp [binOp,Op.intDiv,ho'.1];rfl,fun E => by rw [wr_ok ho'.2];exact .mk_int _ _⟩
  case rem => exact ⟨_,by simp [binOp,Op.intDiv,show b ≠ 0 from ho],fun E => .mk_int _ _⟩
  case eql => exact ⟨_,by simp [binOp,Op.intCmp],fun E => .mk_bool _⟩
  case neq => exact ⟨_,by simp [binOp,Op.intCmp],fun E => .mk_bool _⟩
  case lss => exact ⟨_,by simp [binOp,Op.intCmp],fun E => .mk_bool _⟩
  case leq => exact ⟨_,by simp [binOp,Op.intCmp],fun E => .mk_bool _⟩
  case gtr => exact ⟨_,by simp [binOp,Op.intCmp],fun E => .mk_bool _⟩
  case geq => exact ⟨_,by simp [binOp,Op.intCmp],fun E => .mk_bool _⟩
  case and => exact ⟨_,by simp [binOp,Op.intBits],fun E => .mk_int _ _⟩
  case or => exact ⟨_,by simp [binOp,Op.intBits],fun E => .mk_int _ _⟩

theorem eqGuard_run (op : BinOp) (t : TypeId) (x y : Operand) {a b : Value} (ha : a.oneCell' = true) (hn : a ≠ .nilIface) (w : World) : (eqGuard op t x y a b).run P w = .ok () w := by
  unfold eqGuard
  cases op <;> (first | (simp;done) | (cases a <;> first | (simp [Value.oneCell'] at ha;done) | (exact absurd rfl hn) | (simp;done)))

theorem eqGuard_int (op : BinOp) (t : TypeId) (x y : Operand) (k : IntKind) (a : Int) (b : Value) (w : World) : (eqGuard op t x y (.int k a) b).run P w = .ok () w :=
  eqGuard_run op t x y rfl (by simp) w

theorem equal_of {t : TypeId} {x y : Value} {w : World} {r : Result Bool} (h : ∀ d,(Op.equalIn (d + 1) t x y).run P w = r) : (Op.equal t x y).run P w = r := h 9999

theorem equal_bool {t : TypeId} (h : P.underlying t = some .bool) (a b : Bool) (w : World) : (Op.equal t (.bool a) (.bool b)).run P w = .ok (a == b) w :=
  equal_of fun d => by simp only [Op.equalIn,Sem.run_bind,run_underlying h,Result.andThen_ok,Sem.run_pure]

theorem equal_ptr {t e : TypeId} (h : P.underlying t = some (.pointer e)) (q : Option Addr) (w : World) : (Op.equal t (.pointer q) (.pointer none)).run P w = .ok q.isNone w :=
  equal_of fun d => by cases q <;> simp only [Op.equalIn,Sem.run_bind,run_underlying h,Result.andThen_ok,Sem.run_pure,Option.isNone]

theorem binOp_eql {t : TypeId} {x y : Value} {b : Bool} {w : World} (h : (Op.equal t x y).run P w = .ok b w)
    (hs : (∃ a c,x = .bool a ∧ y = .bool c) ∨ (∃ a c,x = .pointer a ∧ y = .pointer c)) :
    (binOp .eql t x y).run P w = .ok (.bool b) w ∧ (binOp .neq t x y).run P w = .ok (.bool !b) w := by
  rcases hs with ⟨a,c,rfl,rfl⟩ | ⟨a,c,rfl,rfl⟩ <;> simp only [binOp,Sem.run_bind,h,Result.andThen_ok,Sem.run_pure,and_self]

theorem effBin_ok (hτ : TabOk P τ) {hx : Bool} {op : BinOp} {xt : TypeId} {ox oy : Operand} {x y : V} {out : Out} (h : effBin τ objs hx op xt x y = some out) (ho : okP out.ob) (g : Good E objs) {c d : Value}
    (rx : Rep E x c) (ry : Rep E y d) : RanV P (do eqGuard op xt ox oy c d;binOp op xt c d) E objs out := by
  unfold effBin at h
  split at h
  · rename_i k a k' b
    have hc := rx.int_inv
    have hd := ry.int_inv
    subst hc hd
    split at h
    · cases h
      have ho : 0 ≤ b := ho
      exact .same g (v := .int k (k.wrap (a * 2 ^ (min b.toNat k.bits)))) (by have hb : ¬ (b : Int) < 0 := Int.not_lt.mpr ho;simp [eqGuard_int,binOp,Op.shift,hb]) (.mk_int _ _)
    · cases h
      have ho : 0 ≤ b := ho
      exact .same g (v := .int k (a.fdiv (2 ^ (min b.toNat k.bits)))) (by have hb : ¬ (b : Int) < 0 := Int.not_lt.mpr ho;simp [eqGuard_int,binOp,Op.shift,hb]) (.mk_int _ _)
    · rename_i n1 n2
      split at h
      · rename_i hk
        subst hk
        simp only [Option.map_eq_some_iff] at h
        obtain ⟨r,h1,rfl⟩ := h
        obtain ⟨c,h2,h3⟩ := effInt_ok h1 ho xt E.w ⟨fun e => by subst e;exact (n1 rfl).elim,fun e => by subst e;exact (n2 rfl).elim⟩
        exact .same g (by simp only [Sem.run_bind,eqGuard_int,Result.andThen_ok];exact h2) (h3 E)
      · cases h
  · rename_i a b
    have hc := rx.bool_inv
    have hd := ry.bool_inv
    subst hc hd
    split at h
    · rename_i sz by_ ze co hs
      have ht : P.underlying xt = some .bool := (hτ xt _ hs).kind
      split at h
      · cases h
        exact .same g (v := .bool (a == b)) (by simp only [Sem.run_bind,eqGuard_run _ _ _ _ (show (Value.bool a).oneCell' = true from rfl) (by simp),Result.andThen_ok];exact (binOp_eql (equal_bool ht a b E.w) (.inl ⟨a,b,rfl,rfl⟩)).1) (.mk_bool _)
      · cases h
        exact .same g (v := .bool (a != b)) (by simp only [Sem.run_bind,eqGuard_run _ _ _ _ (show (Value.bool a).oneCell' = true from rfl) (by simp),Result.andThen_ok];exact (binOp_eql (equal_bool ht a b E.w) (.inl ⟨a,b,rfl,rfl⟩)).2) (.mk_bool _)
      · cases h
    · cases h
  · cases ry
    split at h
    · rename_i sz by_ ze co hs
      obtain ⟨e,ht⟩ : ∃ e,P.underlying xt = some (.pointer e) := (hτ xt _ hs).kind
      have key : ∀ (b : Bool) (q : Option Addr), c = .pointer q → q.isNone = b → ∀ out, (match op with
          | .eql => some (⟨none,.d .bool b,objs⟩ : Out)
          | .neq => some ⟨none,.d .bool (!b),objs⟩
          | _ => none) = some out → RanV P (do eqGuard op xt ox oy c (.pointer none);binOp op xt c (.pointer none)) E objs out := by
        intro b q hq hb out h
        subst hq
        subst hb
        have heq := binOp_eql (equal_ptr ht q E.w) (.inr ⟨_,_,rfl,rfl⟩)
        split at h
        · cases h
          exact .same g (by simp only [Sem.run_bind,eqGuard_run _ _ _ _ (show (Value.pointer q).oneCell' = true from rfl) (by simp),Result.andThen_ok];exact heq.1) (.mk_bool _)
        · cases h
          exact .same g (by simp only [Sem.run_bind,eqGuard_run _ _ _ _ (show (Value.pointer q).oneCell' = true from rfl) (by simp),Result.andThen_ok];exact heq.2) (.mk_bool _)
        · cases h
      simp only [] at h
      split at h
      · cases rx;exact key true none rfl rfl out h
      · obtain ⟨b,off,vals,rfl,_⟩ := er_inv rx
        exact key false _ rfl rfl out h
      · rename_i b cs
        cases rx with
        | opt h1 h2 =>
          cases b with
          | true => obtain ⟨b,off,vals,rfl,_⟩ := er_inv (h1 rfl);exact key false _ rfl rfl out h
          | false => exact key true none (h2 rfl) rfl out h
      · cases h
    · cases h
  · cases h

theorem effUn_ok {hx : Bool} {op : UnOp} {x : V} {out : Out} (h : effUn objs hx op x = some out) (ho : okP out.ob) (g : Good E objs) {c : Value} (rx : Rep E x c) : RanV P (Op.unary op c) E objs out := by
  unfold effUn at h
  split at h
  · cases h
    have hc := rx.int_inv
    subst hc
    rename_i k n
    have hw := wr_ok ho
    exact .same g (v := .int k (wr hx k (-n)).2) (by simp [Op.unary,Op.intArith,hw]) (.mk_int _ _)
  · cases h
    have hc := rx.bool_inv
    subst hc
    exact .same g (by simp [Op.unary]) (.mk_bool _)
  · cases h

theorem effConvert_ok (hτ : TabOk P τ) {hx : Bool} {a b : TypeId} {x : V} {out : Out} (h : effConvert τ objs hx a b x = some out) (ho : okP out.ob) (g : Good E objs) {c : Value} (rx : Rep E x c) :
    RanV P (convert a b c) E objs out := by
  unfold effConvert at h
  split at h
  · rename_i k1 _ _ _ _ k2 _ _ _ _ k3 n h1 h2
    cases h
    have hc := rx.int_inv
    subst hc
    have ha : P.underlying a = some (.int k1) := (hτ a _ h1).kind
    have hb : P.underlying b = some (.int k2) := (hτ b _ h2).kind
    have hw := wr_ok ho
    exact .same g (v := .int k2 (wr hx k2 n).2) (by simp [convert,run_underlying ha,run_underlying hb,Conv.intToInt,hw]) (.mk_int _ _)
  · cases h

theorem effMinMax_ok {mx : Bool} {x y : V} {out : Out} (h : effMinMax objs mx x y = some out) (g : Good E objs) {c d : Value} (rx : Rep E x c) (ry : Rep E y d) (ts : Array TypeId) (t : TypeId) :
    RanV P (if mx then Builtin.max_ ts t #[c,d] else Builtin.min_ ts t #[c,d]) E objs out := by
  unfold effMinMax at h
  split at h
  · rename_i k a k' b
    split at h
    · rename_i hk
      subst hk
      cases h
      have hc := rx.int_inv
      have hd := ry.int_inv
      subst hc hd
      cases mx with
      | true => exact .same g (by simp [Builtin.max_,Builtin.max2]) (.mk_int _ _)
      | false => exact .same g (by simp [Builtin.min_,Builtin.min2]) (.mk_int _ _)
    · cases h
  · cases h

theorem boolV_inv {v : V} {p : Prop} {b : Bool} {c : Value} (h : boolV v = some (p,b)) (hp : p) (r : Rep E v c) : c = .bool b := by
  unfold boolV at h
  split at h
  · cases h;exact r.bool_inv
  · cases h
    cases r with | when h1 h2 => exact (h1 hp).bool_inv
  · cases h

theorem effPick_ok {oa ob : Operand} {c x y : V} {out : Out} (h : effPick objs oa ob c x y = some out) (ho : okP out.ob) (g : Good E objs) {c' x' y' : Value} (rc : Rep E c c') (rx : Rep E x x') (ry : Rep E y y')
    (hx : ∀ b,oa = .const (.bool b) → x' = .bool b) (hy : ∀ b,ob = .const (.bool b) → y' = .bool b) :
    RanV P (do pure (if ← Go.asBool c' then x' else y')) E objs out := by
  unfold effPick at h
  split at h
  · rename_i c gx x gy y h1 h2 h3
    have hc := asBool_inv h1 rc
    subst hc
    split at h
    · cases h
      have e := hx true rfl
      subst e
      cases c with
      | true => exact .same g (v := .bool true) (by simp [Go.asBool]) (.mk_bool _)
      | false =>
        have e := boolV_inv h3 (ho rfl) ry
        subst e
        exact .same g (v := .bool y) (by simp [Go.asBool]) (by simpa using .mk_bool _)
    · cases h
      have e := hy false rfl
      subst e
      cases c with
      | false => exact .same g (v := .bool false) (by simp [Go.asBool]) (.mk_bool _)
      | true =>
        have e := boolV_inv h2 (ho rfl) rx
        subst e
        exact .same g (v := .bool x) (by simp [Go.asBool]) (by simpa using .mk_bool _)
    · cases h
      obtain ⟨h4,h5⟩ := ho
      cases c with
      | true =>
        have e := boolV_inv h2 (h4 rfl) rx
        subst e
        exact .same g (v := .bool x) (by simp [Go.asBool]) (by simpa using .mk_bool _)
      | false =>
        have e := boolV_inv h3 (h5 rfl) ry
        subst e
        exact .same g (v := .bool y) (by simp [Go.asBool]) (by simpa using .mk_bool _)
  · cases h

end Go.Proofs.Ytlncingakpelbaa

namespace Go.Proofs.Ytlncingakpelbaa
open Go
set_option linter.unusedVariables false

variable {P : Program} {τ : TyTab} {E : Env} {objs : List Obj}

/-! ## What makes memory -/
theorem push_box (g : Good E objs) {cs : List V} {vals : Array Value} {t : TypeId} (r : Reps E cs vals.toList) :
    ∃ E',E'.w = E.w.alloc (.cells vals t) ∧ Good E' (objs ++ [.box cs]) ∧ Step E objs E' (objs ++ [.box cs]) ∧ Rep E' (.ref objs.length 0 0) (.pointer (some ⟨E.w.heap.size,0,none⟩)) := by
  have hw := World.grownBy_alloc E.w (.cells vals t) none
  let L : Loc := ⟨E.w.heap.size,.nilIface,0⟩
  have hx := push_ext g L hw
  have hr := r.mono hx
  have h := Good.push g (L := L) (o := .box cs) hw ⟨by simp [Env.push, upd_same], vals, t, by simp only [Env.push, upd_same, L]; exact heap_alloc_new _ _, by simpa using hr.1,
    fun j hj => by simpa [Array.getD_eq_getD_getElem?,List.getD_eq_getElem?_getD] using hr.2 j hj⟩ (fun _ => Nat.le_refl _)
  refine ⟨_,rfl,h.1,h.2,.ref rfl (by rw [g.len];exact Nat.lt_succ_self _) (fun u hu => ?_)⟩
  rw [g.len] at hu ⊢
  simp only [Env.push,upd_same,Option.some.injEq] at hu
  subst hu
  exact ⟨Nat.le_refl _,fun _ => by simp only [Env.push,upd_same,L]⟩

theorem effAlloc_ok (hτ : TabOk P τ) {t : TypeId} {out : Out} (h : effAlloc τ objs t = some out) (g : Good E objs) : RanV P (Instr.alloc t true (.tuple #[])) E objs out := by
  unfold effAlloc at h
  split at h
  · cases h
  · rename_i ti hn hti
    cases h
    obtain ⟨info,z,hi,hs,hb,hz,hzl,hzs⟩ := (hτ t _ hti).info
    obtain ⟨E',hw,h1,h2,h3⟩ := push_box g (t := t) (cs := zeroV ti.zero) (vals := z.cells) (by rw [hzl];exact zeroV_reps _)
    exact ⟨E',_,by rw [hw];simp [Instr.alloc,zero_run hi hz,newVar,newRow],h1,h2,h3⟩
  · cases h

theorem effBox_ok {t : TypeId} {x : V} {out : Out} (h : effBox objs x = some out) (g : Good E objs) {c : Value} (r : Rep E x c) : RanV P (Instr.box t c) E objs out := by
  unfold effBox at h
  simp only [Option.map_eq_some_iff] at h
  obtain ⟨cs,h1,rfl⟩ := h
  obtain ⟨E',hw,h1,h2,h3⟩ := push_box g (t := t) (scells_reps h1 r).1
  exact ⟨E',_,by rw [hw];simp [Instr.box,newVar,newRow],h1,h2,h3⟩

theorem fold_splice (off : Nat) : ∀ (vs : List Value) (k : Nat) (cells : Array Value), off + k + vs.length ≤ cells.size →
    (vs.zipIdx k).foldl (fun cs (p : Value × Nat) => cs.setIfInBounds (off + p.2) p.1) cells = (cells.toList.take (off + k) ++ vs ++ cells.toList.drop (off + k + vs.length)).toArray
  | [],k,cells,h => by simp
  | v :: vs,k,cells,h => by
    simp only [List.zipIdx_cons,List.foldl_cons,List.length_cons] at h ⊢
    rw [fold_splice off vs (k + 1) _ (by simp;omega)]
    apply Array.ext'
    simp only [Array.toList_setIfInBounds]
    apply List.ext_getElem?
    intro j
    have e1 : off + (k + 1) = off + k + 1 := by omega
    rw [e1]
    have s1 := splice_get (A := cells.toList.set (off + k) v) (vs := vs) (o := off + k + 1) (by simp;omega) j
    have s2 := splice_get (A := cells.toList) (vs := v :: vs) (o := off + k) (by simp;omega) j
    have e2 : off + k + (vs.length + 1) = off + k + 1 + vs.length := by omega
    simp only [List.length_cons,e2] at s2 ⊢
    rw [s1,s2]
    by_cases c1 : j < off + k
    · rw [if_pos (by omega),if_pos c1,List.getElem?_set_ne (by omega)]
    · by_cases c2 : j = off + k
      · subst c2
        rw [if_pos (by omega),if_neg c1,if_pos (by omega)]
        rw [List.getElem?_set_self (by simp;omega)]
        simp
      · rw [if_neg (by omega),if_neg c1]
        by_cases c3 : j < off + k + 1 + vs.length
        · rw [if_pos c3,if_pos (by omega)]
          have : j - (off + k) = (j - (off + k + 1)) + 1 := by omega
          rw [this];simp
        · rw [if_neg c3,if_neg (by omega),List.getElem?_set_ne (by omega)]

theorem fill_cons {place : Nat → Option (Nat × Nat)} {cells : Array Value} {i off size : Nat} {v : Value} {rest : List (Nat × Value)} (hp : place i = some (off, size)) (hs : v.cells.toList.length = size)
    (hf : off + size ≤ cells.size) : Instr.fill place cells ((i,v) :: rest) = Instr.fill place (cells.toList.take off ++ v.cells.toList ++ cells.toList.drop (off + v.cells.toList.length)).toArray rest := by
  have hsz : v.cells.size = size := by simpa using hs
  have h1 : ¬ (v.cells.size ≠ size ∨ off + v.cells.size > cells.size) := by omega
  have hfo := fold_splice off v.cells.toList 0 cells (by simp;omega)
  simp only [Instr.fill,hp]
  rw [if_neg (by simpa using h1)]
  congr 1
  rw [← Array.foldl_toList,Array.toList_zipIdx]
  simpa using hfo

theorem fillV_ok {offs : List (Nat × Nat)} : ∀ {parts : List (Nat × V)} {vals : List (Nat × Value)} {cs cs' : List V} {cells : Array Value}, fillV offs cs parts = some cs' → Reps E cs cells.toList →
    parts.map (·.1) = vals.map (·.1) → (∀ (j : Nat) (p : Nat × V) (q : Nat × Value),parts[j]? = some p → vals[j]? = some q → Rep E p.2 q.2) →
    ∃ cells',Instr.fill (offs[·]?) cells vals = some cells' ∧ Reps E cs' cells'.toList
  | [],vals,cs,cs',cells,h,r,hm,_ => by
    have : vals = [] := by simpa using hm.symm
    subst this
    simp only [fillV] at h
    cases h
    exact ⟨cells,rfl,r⟩
  | (i,v) :: parts,[],cs,cs',cells,h,r,hm,_ => by simp at hm
  | (i,v) :: parts,(i',c) :: vals,cs,cs',cells,h,r,hm,hr => by
    simp only [List.map_cons,List.cons.injEq] at hm
    obtain ⟨rfl,hm⟩ := hm
    simp only [fillV] at h
    split at h
    · rename_i o n new ho hn
      split at h
      · rename_i hlen
        simp only [Option.bind_eq_some_iff] at h
        obtain ⟨cs1,h1,h2⟩ := h
        have hc := (scells_reps hn (hr 0 _ _ rfl rfl)).1
        obtain ⟨h3,h4⟩ := r.put h1 hc
        have hl : c.cells.toList.length = n := hc.1.trans hlen
        obtain ⟨cells',h5,h6⟩ := fillV_ok (vals := vals) (cells := (cells.toList.take o ++ c.cells.toList ++ cells.toList.drop (o + c.cells.toList.length)).toArray) h2 (by simpa using h3) hm
          (fun j p q hp hq => hr (j + 1) p q (by simpa using hp) (by simpa using hq))
        exact ⟨cells',by rw [fill_cons (place := (offs[·]?)) ho hl (by simp at h4 hl ⊢;omega)];exact h5,h6⟩
      · cases h
    · cases h

theorem mapM_run {α β : Type} {f : α → Sem β} {g : α → β} : ∀ {l : List α},(∀ x ∈ l,∀ w,(f x).run P w = .ok (g x) w) → ∀ w,(l.mapM f).run P w = .ok (l.map g) w
  | [],_,w => by simp
  | x :: l,h,w => by
    have h1 := h x (by simp) w
    have h2 := mapM_run (l := l) (fun y hy => h y (by simp [hy])) w
    simp [h1,h2]

theorem effBuild_ok (hτ : TabOk P τ) {t : TypeId} {parts : List (Nat × V)} {vals : Array (Nat × Value)} {out : Out} (h : effBuild τ objs t parts = some out) (g : Good E objs)
    (hm : parts.map (·.1) = vals.toList.map (·.1)) (hr : ∀ (j : Nat) (p : Nat × V) (q : Nat × Value),parts[j]? = some p → vals.toList[j]? = some q → Rep E p.2 q.2) : RanV P (Instr.build t vals) E objs out := by
  unfold effBuild at h
  split at h
  · rename_i offs sz by_ zero co hti
    simp only [Option.map_eq_some_iff] at h
    obtain ⟨cs,h1,rfl⟩ := h
    have hok := hτ t _ hti
    obtain ⟨fs,h2,h3,h4⟩ := hok.kind
    obtain ⟨info,z,hi,hs,hb,hz,hzl,hzs⟩ := hok.info
    obtain ⟨cells',h5,h6⟩ := fillV_ok (vals := vals.toList) (cells := z.cells) h1 (by rw [hzl];exact zeroV_reps _) hm hr
    have hplaces : ∀ w,(fs.mapM (fun f => Prod.mk f.offset <$> sizeOf f.type) : Sem (Array (Nat × Nat))).run P w = .ok offs.toArray w := by
      intro w
      rw [Array.mapM_eq_mapM_toList]
      simp only [Sem.run_map]
      rw [mapM_run (g := fun f => (f.offset,P.cellsOf f.type))]
      · simp [h3]
      · intro f hf w
        have hnz := h4 (f.offset,P.cellsOf f.type) (by rw [← h3];exact List.mem_map.2 ⟨f,hf,rfl⟩)
        cases hq : P.info? f.type with
        | none => simp [Program.cellsOf,hq] at hnz
        | some i => simp [sizeOf_run hq,Program.cellsOf,hq]
    refine .same g (v := .agg cells') ?_ (.agg (by simpa using h6.1) (fun j hj => by simpa [Array.getD_eq_getD_getElem?,List.getD_eq_getElem?_getD] using h6.2 j hj))
    simp [Instr.build,zero_run hi hz,run_underlying h2,hplaces,h5]
  · cases h

end Go.Proofs.Ytlncingakpelbaa

namespace Go.Proofs.Ytlncingakpelbaa
open Go
set_option linter.unusedVariables false

variable {P : Program} {τ : TyTab} {E : Env} {objs : List Obj}

/-- A row of data has come to be in a new block. -/
theorem push_row (g : Good E objs) {T : Ty} {xs : List T.den} {w : World} {cur : Array Value} {e : TypeId} {cap : Nat} (hw : E.w.grownBy w none) (hb : w.heap[E.w.heap.size]? = some (.cells cur e (0, 0)))
    (hpos : 0 < T.size) (hcap : xs.length ≤ cap) (hmax : cap ≤ maxLen) (hsz : cur.size = cap * T.size) {cs : List Value} (hc : CellsL E.w E.S T xs cs) (ht : cur.toList.take (xs.length * T.size) = cs) :
    ∃ E',E'.w = w ∧ Good E' (objs ++ [.row T xs 0]) ∧ Step E objs E' (objs ++ [.row T xs 0]) ∧ Rep E' (.osl objs.length 0) (.slice (some ⟨E.w.heap.size,0,none⟩) xs.length cap) := by
  let L : Loc := ⟨E.w.heap.size,.slice (some ⟨E.w.heap.size,0,none⟩) xs.length cap,T.size⟩
  have hx := push_ext g L hw
  have h := Good.push g (L := L) (o := .row T xs 0) hw ⟨by simp [Env.push,upd_same],by simp only [Env.push,upd_same,L],hpos,e,cs,hc.mono hx.S,by
    by_cases hz : cap = 0
    · subst hz
      have : xs = [] := List.eq_nil_of_length_eq_zero (by omega)
      subst this
      exact .inl ⟨_,by simp only [Env.push,upd_same,L];rfl,rfl⟩
    · exact .inr ⟨cap,cur,by simp only [Env.push,upd_same,L],by simp only [Env.push,upd_same,L];exact hb,hcap,by omega,hmax,hsz,ht⟩⟩ (fun _ => Nat.le_refl _)
  refine ⟨_,rfl,h.1,h.2,.osl rfl (by rw [g.len];exact Nat.lt_succ_self _) (fun u hu => ?_)⟩
  rw [g.len] at hu ⊢
  simp only [Env.push,upd_same,Option.some.injEq] at hu
  subst hu
  exact ⟨Nat.le_refl _,fun _ => by simp only [Env.push,upd_same,L]⟩

/-- The elements of a literal,put one behind the other. -/
theorem elemsOf_ok {T : Ty} : ∀ {parts : List (Nat × V)} {vals : List (Nat × Value)} {n : Nat} {xs : List T.den}, elemsOf T n parts = some xs →
    parts.map (·.1) = vals.map (·.1) → (∀ (j : Nat) (p : Nat × V) (q : Nat × Value),parts[j]? = some p → vals[j]? = some q → Rep E p.2 q.2) →
    xs.length = parts.length ∧ ∃ cs,CellsL E.w E.S T xs cs ∧ ∀ (cells : Array Value),n * T.size + parts.length * T.size ≤ cells.size →
      Instr.fill (fun i => some (i * T.size,T.size)) cells vals = some (cells.toList.take (n * T.size) ++ cs ++ cells.toList.drop (n * T.size + cs.length)).toArray
  | [],vals,n,xs,h,hm,_ => by
    have : vals = [] := by simpa using hm.symm
    subst this
    simp only [elemsOf,Option.some.injEq] at h
    subst h
    exact ⟨rfl,[],rfl,fun cells _ => by simp [Instr.fill]⟩
  | (i,v) :: parts,[],n,xs,h,hm,_ => by simp at hm
  | (i,v) :: parts,(i',c) :: vals,n,xs,h,hm,hr => by
    simp only [List.map_cons,List.cons.injEq] at hm
    obtain ⟨rfl,hm⟩ := hm
    simp only [elemsOf] at h
    split at h
    · rename_i hi
      subst hi
      split at h
      · rename_i x l hx hl
        cases h
        simp only [Option.bind_eq_some_iff] at hx
        obtain ⟨new,hn,hp⟩ := hx
        have hc := pack_rep hp (scells_reps hn (hr 0 _ _ rfl rfl)).1
        obtain ⟨h1,cs,h2,h3⟩ := elemsOf_ok (vals := vals) hl hm (fun j p q hp hq => hr (j + 1) p q (by simpa using hp) (by simpa using hq))
        have hcl := hc.length
        have hcsl := h2.length
        refine ⟨by simp [h1],c.cells.toList ++ cs,⟨_,_,rfl,hc,h2⟩,fun cells hfit => ?_⟩
        have hmul : (i + 1) * T.size = i * T.size + T.size := Nat.succ_mul _ _
        have hmul2 : (parts.length + 1) * T.size = parts.length * T.size + T.size := Nat.succ_mul _ _
        simp only [List.length_cons] at hfit
        rw [fill_cons (off := i * T.size) (size := T.size) rfl hcl (by omega),h3 _ (by simp only [List.size_toArray,List.length_append,List.length_take,List.length_drop,Array.length_toList] at hcl ⊢;omega)]
        congr 2
        have hcsl' : cs.length = parts.length * T.size := by rw [hcsl,h1]
        apply List.ext_getElem?
        intro k
        have hA : (cells.toList.take (i * T.size) ++ c.cells.toList ++ cells.toList.drop (i * T.size + c.cells.toList.length)).length = cells.size := by
          simp only [List.length_append,List.length_take,List.length_drop,Array.length_toList] at hcl ⊢;omega
        have s1 := splice_get (A := cells.toList.take (i * T.size) ++ c.cells.toList ++ cells.toList.drop (i * T.size + c.cells.toList.length)) (vs := cs) (o := (i + 1) * T.size) (by rw [hA];omega) k
        have s2 := splice_get (A := cells.toList) (vs := c.cells.toList) (o := i * T.size) (by simp only [Array.length_toList] at hcl ⊢;omega) k
        have s3 := splice_get (A := cells.toList) (vs := c.cells.toList ++ cs) (o := i * T.size) (by simp only [List.length_append,Array.length_toList] at hcl ⊢;omega) k
        rw [s1,s2,s3]
        simp only [List.length_append] at hcl ⊢
        by_cases c1 : k < i * T.size
        · rw [if_pos (by omega),if_pos c1,if_pos c1]
        · by_cases c2 : k < i * T.size + T.size
          · rw [if_pos (by omega),if_neg c1,if_pos (by omega),if_neg c1,if_pos (by omega),List.getElem?_append_left (by omega)]
          · rw [if_neg (by omega)]
            by_cases c3 : k < (i + 1) * T.size + cs.length
            · rw [if_pos c3,if_neg c1,if_pos (by omega),List.getElem?_append_right (by omega)]
              congr 1;omega
            · rw [if_neg c3,if_neg c1,if_neg (by omega),if_neg c1,if_neg (by omega)]
      · cases h
    · cases h

theorem effBuildSlice_ok (hτ : TabOk P τ) {t : TypeId} {len : Nat} {parts : List (Nat × V)} {vals : Array (Nat × Value)} {out : Out} (h : effBuildSlice τ objs t len parts = some out) (ho : okP out.ob) (g : Good E objs)
    (hm : parts.map (·.1) = vals.toList.map (·.1)) (hr : ∀ (j : Nat) (p : Nat × V) (q : Nat × Value),parts[j]? = some p → vals.toList[j]? = some q → Rep E p.2 q.2) : RanV P (Instr.buildSlice t len vals) E objs out := by
  unfold effBuildSlice at h
  split at h
  · rename_i e sz by_ zero co hti
    have ht : P.underlying t = some (.slice e) := (hτ t _ hti).kind
    split at h
    · rename_i ei hei
      have hei := hτ e _ hei
      split at h
      · rename_i T hT
        split at h
        · rename_i hlen
          simp only [Option.map_eq_some_iff] at h
          obtain ⟨xs,h1,rfl⟩ := h
          obtain ⟨hTs,hpos,_⟩ := hei.code T hT
          rw [← hTs] at hpos
          obtain ⟨info,z,hi,hs,hb,hz,hzl,hzs⟩ := hei.info
          obtain ⟨h2,cs,h3,h4⟩ := elemsOf_ok (vals := vals.toList) h1 hm hr
          have hsmall : len * info.size ≤ 2 ^ 24 := by rw [hs];exact ho
          have hcl := h3.length
          let cells0 : Array Value := if len * info.size = 0 then #[] else (Array.range (len * info.size)).map (z.cells[· % z.cells.size]!)
          have hc0 : cells0.size = len * T.size := by
            show (if len * info.size = 0 then #[] else (Array.range (len * info.size)).map (z.cells[· % z.cells.size]!)).size = _
            split
            · rw [hTs,← hs];simp_all
            · rw [hTs,← hs];simp
          have h5 := h4 cells0 (by rw [hc0,hlen];omega)
          have hcur : (cells0.toList.take (0 * T.size) ++ cs ++ cells0.toList.drop (0 * T.size + cs.length)).toArray = cs.toArray := by
            rw [Nat.zero_mul,Nat.zero_add,List.drop_of_length_le (by rw [Array.length_toList,hc0,hcl,h2,hlen];exact Nat.le_refl _)]
            simp
          rw [hcur] at h5
          obtain ⟨E',hw,g1,g2,g3⟩ := push_row g (xs := xs) (w := E.w.alloc (.cells cs.toArray e)) (cur := cs.toArray) (e := e) (cap := xs.length) (World.grownBy_alloc _ _ _) (heap_alloc_new _ _)
            hpos (Nat.le_refl _) (by
              have : xs.length * 1 ≤ xs.length * T.size := Nat.mul_le_mul_left _ hpos
              have : len * info.size = xs.length * T.size := by rw [h2,hlen,hTs,hs]
              unfold maxLen;omega) (by simp [hcl]) h3 (by rw [← hcl];simp)
          refine ⟨E',.slice (some ⟨E.w.heap.size,0,none⟩) len len,?_,g1,g2,?_⟩
          · rw [hw]
            have hns : ¬ len * info.size > 2 ^ 24 := by omega
            have h5' : Instr.fill (fun i => some (i * info.size,info.size)) cells0 vals.toList = some cs.toArray := by rw [hs,← hTs];exact h5
            by_cases hz0 : len * info.size = 0
            · have e0 : cells0 = #[] := if_pos hz0
              rw [e0] at h5'
              have e2 : (Array.range (len * info.size)).map (fun x => (#[] : Array Value)[x % (#[] : Array Value).size]!) = #[] := by rw [hz0];apply Array.eq_empty_of_size_eq_zero;simp
              simp only [Instr.buildSlice,Sem.run_bind,run_underlying ht,Result.andThen_ok,sizeOf_run hi,if_neg hns,Sem.run_ite,if_pos hz0,Sem.run_pure,e2,h5']
              simp [newRow]
            · have e0 : cells0 = _ := if_neg hz0
              rw [e0] at h5'
              simp [Instr.buildSlice,run_underlying ht,sizeOf_run hi,hns,hz0,zero_run hi hz,h5',newRow]
          · have e1 : xs.length = len := by rw [h2,hlen]
            rw [e1] at g3
            exact g3
        · cases h
      · cases h
    · cases h
  · cases h

theorem replicate_cells {w : World} {S : Nat → Prop} {T : Ty} {zs : List Value} (h : Cells w S T T.dflt zs) : ∀ n : Nat,CellsL w S T (List.replicate n T.dflt) (List.replicate n zs).flatten
  | 0 => rfl
  | n + 1 => ⟨zs,_,by simp [List.replicate_succ],h,replicate_cells h n⟩

theorem made_take {z : Array Value} {n c : Nat} (hz : 0 < z.size) (h : n ≤ c) : (madeCells z (c * z.size)).toList.take (n * z.size) = (List.replicate n z.toList).flatten := by
  have hl : n * z.size ≤ c * z.size := Nat.mul_le_mul_right _ h
  have key : ∀ n k,k < n * z.size → (List.replicate n z.toList).flatten[k]? = some z[k % z.size]! := by
    intro n
    induction n with
    | zero => intro k hk;simp at hk
    | succ n ih =>
      intro k hk
      rw [List.replicate_succ,List.flatten_cons]
      rcases Nat.lt_or_ge k z.size with h1 | h1
      · rw [List.getElem?_append_left (by simpa using h1),Nat.mod_eq_of_lt h1]
        simp [h1]
      · rw [List.getElem?_append_right (by simpa using h1),Array.length_toList,ih _ (by rw [Nat.succ_mul] at hk;omega),Nat.mod_eq_sub_mod h1]
  have hfl : ∀ n,(List.replicate n z.toList).flatten.length = n * z.size := by intro n;simp
  apply List.ext_getElem?
  intro k
  rw [List.getElem?_take]
  split
  · rename_i hk
    rw [key n k hk]
    simp only [madeCells,Array.getElem?_toList,Array.getElem?_map]
    rw [Array.getElem?_range,if_pos (by omega)]
    rfl
  · rw [List.getElem?_eq_none (by rw [hfl];omega)]

theorem effMakeSlice_ok (hτ : TabOk P τ) {t : TypeId} {l c : V} {out : Out} (h : effMakeSlice τ objs t l c = some out) (ho : okP out.ob) (g : Good E objs) {l' c' : Value} (rl : Rep E l l') (rc : Rep E c c') :
    RanV P (Instr.makeSlice t l' c') E objs out := by
  unfold effMakeSlice at h
  split at h
  · rename_i e sz by_ zero co l c hti hl hc
    have ht : P.underlying t = some (.slice e) := (hτ t _ hti).kind
    have hl := asInt_inv hl rl
    have hc := asInt_inv hc rc
    subst hl hc
    split at h
    · rename_i ei hei
      have hei := hτ e _ hei
      split at h
      · rename_i T hT
        cases h
        obtain ⟨h0,hlc,hby,hmax⟩ : 0 ≤ l ∧ l ≤ c ∧ c * ei.bytes ≤ 140737488355328 ∧ c ≤ 9223372036854775807 := ho
        obtain ⟨hTs,hpos,hz0⟩ := hei.code T hT
        rw [← hTs] at hpos
        obtain ⟨info,z,hi,hs,hb,hz,hzl,hzs⟩ := hei.info
        have hrun := run_make (P := P) E.w t e info z ht hi hz .i64 .i64 l c h0 hlc (by rw [hb,Int.mul_comm];omega) hmax
        have hzz : z.cells.size = T.size := by rw [hzs,hTs]
        have hlc' : l.toNat ≤ c.toNat := by omega
        obtain ⟨E',hw,g1,g2,g3⟩ := push_row g (xs := List.replicate l.toNat T.dflt) (w := E.w.alloc (.cells (madeCells z.cells (c.toNat * info.size)) e)) (cur := madeCells z.cells (c.toNat * info.size)) (e := e) (cap := c.toNat)
          (World.grownBy_alloc _ _ _) (heap_alloc_new _ _) hpos (by simpa using hlc') (by unfold maxLen;omega) (by rw [size_madeCells,hs,hTs]) (replicate_cells (hz0 E.w E.S) l.toNat) (by
            rw [List.length_replicate,hs,← hTs,← hzz,made_take (by omega) hlc',← hzl])
        exact ⟨E',_,by rw [hw];exact hrun,g1,g2,by simpa using g3⟩
      · cases h
    · cases h
  · cases h

/-! ### append,len,copy,slice -/
/-- A source of so many elements: where its cells are. -/
def SrcAt (w : World) (size m : Nat) (news : List Value) (c : Value) : Prop :=
  news.length = m * size ∧ ∃ a cap,c = .slice a m cap ∧ (0 < m → ∃ ad,a = some ad ∧ ∀ j v,news[j]? = some v → w.cell? (ad.add j) = some v)

theorem SrcAt.run {w : World} {size m : Nat} {news : List Value} {c : Value} (h : SrcAt w size m news c) {w' : World} (hw : w'.heap = w.heap) :
    (Builtin.firstCells size m c).run P w' = .ok news.toArray w' := by
  obtain ⟨h1,a,cap,rfl,h2⟩ := h
  by_cases hm : 0 < m
  · obtain ⟨ad,rfl,h3⟩ := h2 hm
    exact run_firstCells_some (P := P) w' size m ad m cap news h1 (fun j v hj => by rw [show w'.cell? (ad.add j) = w.cell? (ad.add j) from by simp only [World.cell?,hw]];exact h3 j v hj)
  · have h0 : m = 0 := by omega
    subst h0
    have hn : news = [] := List.eq_nil_of_length_eq_zero (by omega)
    subst hn
    cases a with
    | none => simp [Builtin.firstCells]
    | some ad => simp [Builtin.firstCells,loadCells,loadCellsFrom]

theorem sl_src {T : Ty} {l : List T.den} {c : Value} (h : Cells E.w E.S (.sl T) l [c]) : ∃ cs,CellsL E.w E.S T l cs ∧ SrcAt E.w T.size l.length cs c := by
  obtain ⟨a,cap,hc,hcap,hl⟩ := h
  have hc' : c = .slice a l.length cap := by simpa using hc
  subst hc'
  by_cases hne : l = []
  · subst hne
    exact ⟨[],rfl,by simp,a,cap,rfl,fun h => by simp at h⟩
  · obtain ⟨b,off,rfl,hS,hx⟩ := hl hne
    have : ∀ (l' : List T.den) (k : Nat),(∀ i x,l'[i]? = some x → l[k + i]? = some x) → ∃ cs,CellsL E.w E.S T l' cs ∧ ∀ j u,cs[j]? = some u → E.w.cell? ⟨b,off + k * T.size + j,none⟩ = some u := by
      intro l'
      induction l' with
      | nil => intro k _;exact ⟨[],rfl,fun j u h => by simp at h⟩
      | cons x l' ih =>
        intro k hk
        obtain ⟨cs',h1,h2⟩ := hx k x (hk 0 x rfl)
        obtain ⟨cs,h3,h4⟩ := ih (k + 1) (fun i y hy => by rw [show k + 1 + i = k + (i + 1) from by omega];exact hk (i + 1) y (by simpa using hy))
        have hl1 := h1.length
        refine ⟨cs' ++ cs,⟨cs',cs,rfl,h1,h3⟩,fun j u hj => ?_⟩
        rcases Nat.lt_or_ge j cs'.length with hlt | hge
        · rw [List.getElem?_append_left hlt] at hj;exact h2 j u hj
        · rw [List.getElem?_append_right hge] at hj
          have := h4 _ u hj
          rw [Nat.succ_mul] at this
          rw [← this];congr 2;omega
    obtain ⟨cs,h1,h2⟩ := this l 0 (fun i x h => by simpa using h)
    refine ⟨cs,h1,h1.length,_,cap,rfl,fun _ => ⟨_,rfl,fun j v hj => ?_⟩⟩
    rw [Addr.add_lit]
    simpa using h2 j v hj

theorem row_src {l : Nat} {T : Ty} {xs : List T.den} {ver : Nat} (h : ObjAt E l (.row T xs ver)) : ∃ cs,CellsL E.w E.S T xs cs ∧ SrcAt E.w T.size xs.length cs (E.loc l).v := by
  obtain ⟨hver,hesz,hpos,e,cs,h9,h10⟩ := h
  refine ⟨cs,h9,h9.length,?_⟩
  rcases h10 with ⟨a,hv,rfl⟩ | ⟨cap,cur,hv1,hv2,hv3,hv4,hv5,hv6,hv7⟩
  · exact ⟨a,0,hv,fun h => by simp at h⟩
  · refine ⟨_,cap,hv1,fun _ => ⟨_,rfl,fun j v hj => ?_⟩⟩
    rw [Addr.add_lit,cell_row hv2,Nat.zero_add]
    rw [← hv7,List.getElem?_take] at hj
    split at hj
    · simpa using hj
    · cases hj

theorem srcOf_ok {T : Ty} {x : V} {ys : List T.den} (h : srcOf T objs x = some ys) (g : Good E objs) {c : Value} (r : Rep E x c) : ∃ cs,CellsL E.w E.S T ys cs ∧ SrcAt E.w T.size ys.length cs c := by
  unfold srcOf at h
  split at h
  · rename_i l ver
    split at h
    · rename_i t xs ver' hcs
      split at h
      · rename_i ht
        subst ht
        split at h
        · rename_i hv
          cases h
          have hat := g.at_ _ _ hcs
          rw [osl_inv r hat.1 hv]
          exact row_src hat
        · cases h
      · cases h
    · cases h
  · exact sl_src (asSl_inv h r)

theorem append_grows {t ty e : TypeId} {i : TypeInfo} {z : Value} (ht : P.underlying t = some (.slice e)) (hi : P.info? e = some i) (hz : i.zero = some z) (w : World)
    {base : Option Addr} {n cap m : Nat} {olds news : List Value} {c : Value} (hold : (Builtin.firstCells i.size n (.slice base n cap)).run P w.drew = .ok olds.toArray w.drew) (hs : SrcAt w i.size m news c)
    (hg : cap < n + m) (h63 : ((n + m : Nat) : Int) ≤ 9223372036854775807) (hfit : Builtin.nextslicecap (n + m) cap * i.bytes ≤ 281474976710656) :
    (Builtin.append_ #[t,t] ty #[.slice base n cap,c]).run P w =
      .ok (.slice (some ⟨w.heap.size,0,none⟩) (n + m) (grownCap w (n + m) cap e))
        (w.drew.alloc (.cells (olds.toArray ++ news.toArray ++ Builtin.zeroCells z.cells (grownCap w (n + m) cap e - (n + m))) e)) := by
  have hf := hs.run (P := P) (w' := w.drew) rfl
  obtain ⟨h1,a,cap',rfl,h2⟩ := hs
  have hn : ¬ (n + m ≤ cap) := by omega
  have h63' : ¬ (9223372036854775807 < ((n : Int) + (m : Int))) := by omega
  have h48' : ¬ (281474976710656 < Builtin.nextslicecap (n + m) cap * i.bytes) := by omega
  simp [Builtin.append_,run_underlying ht,sizeOf,typeInfo,zeroValue,hi,hz,Builtin.lenOf,hn,h63',h48',Question.forced,hold,hf,newRow,grownCap]
  congr 2
  apply Array.ext'
  simp

theorem append_fits' {t ty e e' : TypeId} {i : TypeInfo} (ht : P.underlying t = some (.slice e)) (hi : P.info? e = some i) (w : World) {b : Nat} {cur : Array Value} {n cap m : Nat} {news : List Value} {c : Value}
    (hb : w.heap[b]? = some (.cells cur e' (0,0))) (hs : SrcAt w i.size m news c) (h1 : ∀ u ∈ news,u.oneCell' = true) (hg : n + m ≤ cap) (hfit : n * i.size + news.length ≤ cur.size) :
    (Builtin.append_ #[t,t] ty #[.slice (some ⟨b,0,none⟩) n cap,c]).run P w =
      .ok (.slice (some ⟨b,0,none⟩) (n + m) cap) (w.setRow b (cur.toList.take (n * i.size) ++ news ++ cur.toList.drop (n * i.size + news.length)).toArray) := by
  have hf := hs.run (P := P) (w' := w) rfl
  obtain ⟨_,a,cap',rfl,h2⟩ := hs
  have hst := run_storeCells_at P b (n * i.size) e' news 0 cur w hb (by simpa using hfit) h1
  simp only [Nat.add_zero] at hst
  simp [Builtin.append_,run_underlying ht,sizeOf,typeInfo,hi,Builtin.lenOf,hg,hf,Addr.add_lit,hst]

theorem append_nothing {t ty e : TypeId} {i : TypeInfo} (ht : P.underlying t = some (.slice e)) (hi : P.info? e = some i) (w : World) {a : Option Addr} {news : List Value} {c : Value} (hs : SrcAt w i.size 0 news c) :
    (Builtin.append_ #[t,t] ty #[.slice a 0 0,c]).run P w = .ok (.slice a 0 0) w := by
  have hf := hs.run (P := P) (w' := w) rfl
  obtain ⟨h1,b,cap',rfl,h2⟩ := hs
  have hn : news = [] := List.eq_nil_of_length_eq_zero (by omega)
  subst hn
  cases a <;> simp [Builtin.append_,run_underlying ht,sizeOf,typeInfo,hi,Builtin.lenOf,hf,storeCells]

theorem take_app {A B : List Value} {n : Nat} (h : A.length = n) (C : List Value) (k : Nat) (hk : n + B.length = k) : (A ++ B ++ C).take k = A ++ B := by
  subst hk h
  rw [← List.length_append]
  exact List.take_left

theorem effAppend_ok (hτ : TabOk P τ) {ts tx ty : TypeId} {s x : V} {out : Out} (h : effAppend τ objs ts tx s x = some out) (ho : okP out.ob) (g : Good E objs) {c d : Value} (rs : Rep E s c) (rx : Rep E x d) :
    RanV P (Builtin.append_ #[ts,tx] ty #[c,d]) E objs out := by
  unfold effAppend at h
  split at h
  · rename_i he
    subst he
    split at h
    · rename_i e sz by_ zero co hti
      have ht : P.underlying ts = some (.slice e) := (hτ ts _ hti).kind
      split at h
      · rename_i ei hei
        have hei := hτ e _ hei
        split at h
        · rename_i T hT
          obtain ⟨hTs,hpos,hz0⟩ := hei.code T hT
          rw [← hTs] at hpos
          obtain ⟨info,z,hi,hs,hb,hz,hzl,hzs⟩ := hei.info
          have hzz : z.cells.size = T.size := by rw [hzs,hTs]
          have hsT : info.size = T.size := by rw [hs,hTs]
          split at h
          · rename_i ys hys
            obtain ⟨news,hn1,hn2⟩ := srcOf_ok hys g rx
            have hnl := hn1.length
            rw [← hsT] at hn2
            have fresh : ∀ (xs : List T.den) (olds : List Value) (old : Nat), CellsL E.w E.S T xs olds → xs.length ≤ old → old < xs.length + ys.length → (xs.length + ys.length) ≤ 9223372036854775807 →
                ∀ cs,cs = Builtin.zeroCells z.cells (grownCap E.w (xs.length + ys.length) old e - (xs.length + ys.length)) →
                E.w.grownBy (E.w.drew.alloc (.cells (olds.toArray ++ news.toArray ++ cs) e)) none ∧
                (E.w.drew.alloc (.cells (olds.toArray ++ news.toArray ++ cs) e)).heap[E.w.heap.size]? = some (.cells (olds.toArray ++ news.toArray ++ cs) e (0,0)) ∧
                (xs ++ ys).length ≤ grownCap E.w (xs.length + ys.length) old e ∧ grownCap E.w (xs.length + ys.length) old e ≤ maxLen ∧
                (olds.toArray ++ news.toArray ++ cs).size = grownCap E.w (xs.length + ys.length) old e * T.size ∧ CellsL E.w E.S T (xs ++ ys) (olds ++ news) ∧
                (olds.toArray ++ news.toArray ++ cs).toList.take ((xs ++ ys).length * T.size) = olds ++ news := by
              intro xs olds old hc1 hc2 hc3 hc4 cs hcs
              have hol := hc1.length
              have hge := grownCap_ge E.w (xs.length + ys.length) old e
              have hcl : cs.size = (grownCap E.w (xs.length + ys.length) old e - (xs.length + ys.length)) * T.size := by rw [hcs,size_zeroCells,hzz]
              refine ⟨⟨rfl,rfl,rfl,by simp,fun k hk _ => heap_alloc_old E.w.drew _ k hk⟩,heap_alloc_new E.w.drew _,by rw [List.length_append];exact hge,grownCap_le_maxLen _ _ _ _ (by unfold maxLen;omega),?_,hc1.append hn1,?_⟩
              · simp only [Array.size_append,List.size_toArray,hol,hnl,hcl,← Nat.add_mul]
                congr 1;omega
              · simp only [Array.toList_append]
                exact take_app rfl _ _ (by rw [List.length_append,hol,hnl,Nat.add_mul])
            split at h
            · -- nil
              cases h
              obtain ⟨h1,h2⟩ : ys.length * ei.bytes ≤ 140737488355328 ∧ ys.length ≤ 9223372036854775807 := ho
              cases rs with
              | nils a =>
                by_cases hm : ys.length = 0
                · have : ys = [] := List.eq_nil_of_length_eq_zero hm
                  subst this
                  have hrun := append_nothing (P := P) (ty := ty) ht hi E.w (a := a) (news := news) (c := d) (by simpa using hn2)
                  have hx := push_ext g (w := E.w) ⟨0,.slice a 0 0,T.size⟩ ⟨rfl,rfl,rfl,Nat.le_refl _,fun _ _ _ => rfl⟩
                  have hp := Good.push g (w := E.w) (L := ⟨0,.slice a 0 0,T.size⟩) (o := .row T [] 0) ⟨rfl,rfl,rfl,Nat.le_refl _,fun _ _ _ => rfl⟩
                    ⟨by simp [Env.push,upd_same],by simp only [Env.push,upd_same],hpos,e,[],rfl,.inl ⟨a,by simp only [Env.push,upd_same],rfl⟩⟩ (fun hh => absurd ⟨a,rfl⟩ hh)
                  refine ⟨E.push E.w ⟨0,.slice a 0 0,T.size⟩,_,hrun,hp.1,hp.2,.osl rfl (by rw [g.len];exact Nat.lt_succ_self _) (fun u hu => ?_)⟩
                  rw [g.len] at hu ⊢
                  simp only [Env.push,upd_same,Option.some.injEq] at hu
                  subst hu
                  exact ⟨Nat.le_refl _,fun _ => by simp only [Env.push,upd_same]⟩
                · have hrun := append_grows (P := P) (ty := ty) ht hi hz E.w (base := a) (n := 0) (cap := 0) (olds := []) (by cases a <;> simp [Builtin.firstCells, loadCells, loadCellsFrom]) hn2 (by omega) (by omega)
                    (growslice_fits (by omega) (by rw [Nat.zero_add,hb];exact h1))
                  simp only [Nat.zero_add] at hrun
                  obtain ⟨f1,f2,f3,f4,f5,f6,f7⟩ := fresh [] [] 0 rfl (Nat.le_refl _) (by simp;omega) (by simpa using h2) _ rfl
                  simp only [List.length_nil,Nat.zero_add,List.nil_append] at f1 f2 f3 f4 f5 f6 f7
                  obtain ⟨E',hw,g1,g2,g3⟩ := push_row g f1 f2 hpos f3 f4 f5 f6 f7
                  exact ⟨E',_,by rw [hw];exact hrun,g1,g2,g3⟩
            · rename_i l ver
              split at h
              · rename_i t xs ver' hcs
                split at h
                · rename_i hT'
                  subst hT'
                  split at h
                  · rename_i hv
                    cases h
                    obtain ⟨h1,h2⟩ : (xs.length + ys.length) * ei.bytes ≤ 140737488355328 ∧ xs.length + ys.length ≤ 9223372036854775807 := ho
                    have hat := g.at_ _ _ hcs
                    have hc := osl_inv rs hat.1 hv
                    subst hc
                    obtain ⟨olds,ho1,ho2⟩ := row_src hat
                    have hlt : l < objs.length := (List.getElem?_eq_some_iff.1 hcs).1
                    obtain ⟨hver,hesz,_,e',cs,h9,h10⟩ := id hat
                    -- what the new place gives
                    have done : ∀ (w : World) (L : Loc) (row : Option Nat), E.w.grownBy w row → (∀ b, row = some b → (Obj.row t xs ver').has (E.loc l) ∧ b = (E.loc l).b) →
                        (∀ hx : Ext E (E.put w l L (ver' + 1)),ObjAt (E.put w l L (ver' + 1)) l (.row t (xs ++ ys) (ver' + 1))) →
                        ((Obj.row t (xs ++ ys) (ver' + 1)).has L → ((Obj.row t xs ver').has (E.loc l) ∧ L.b = (E.loc l).b) ∨ E.w.heap.size ≤ L.b) → L.v.oneCell' = true →
                        (Builtin.append_ #[ts,ts] ty #[(E.loc l).v,d]).run P E.w = .ok L.v w →
                        RanV P (Builtin.append_ #[ts,ts] ty #[(E.loc l).v,d]) E objs ⟨some ((xs.length + ys.length) * ei.bytes ≤ 140737488355328 ∧ xs.length + ys.length ≤ 9223372036854775807),.osl l (ver + 1),objs.set l (.row t (xs ++ ys) (ver + 1))⟩ := by
                      intro w L row hw hrow hobj hhas hone hrun
                      subst hv
                      have hx := put_ext (u' := ver + 1) (L := L) g hcs hw hrow hat.1 (Nat.le_succ _) (fun e => by omega)
                      have hp := Good.put (u' := ver + 1) g (o' := .row t (xs ++ ys) (ver + 1)) hcs hw hrow hat.1 (Nat.le_succ _) (fun e => by omega) (hobj hx) hhas
                      refine ⟨_,L.v,hrun,hp.1,hp.2,.osl hone (by show l < E.len;rw [← g.len];exact hlt) (fun u hu => ?_)⟩
                      simp only [Env.put,upd_same,Option.some.injEq] at hu
                      subst hu
                      exact ⟨Nat.le_refl _,fun _ => by simp only [Env.put,upd_same]⟩
                    have grow : ∀ (base : Option Addr) (cap : Nat), (E.loc l).v = .slice base xs.length cap → xs.length ≤ cap → cap < xs.length + ys.length →
                        RanV P (Builtin.append_ #[ts,ts] ty #[(E.loc l).v,d]) E objs ⟨some ((xs.length + ys.length) * ei.bytes ≤ 140737488355328 ∧ xs.length + ys.length ≤ 9223372036854775807),.osl l (ver + 1),objs.set l (.row t (xs ++ ys) (ver + 1))⟩ := by
                      intro base cap hbase hc1 hc2
                      rw [hbase,← hsT] at ho2
                      have hrun := append_grows (P := P) (ty := ty) ht hi hz E.w (base := base) (n := xs.length) (cap := cap) (olds := olds) (ho2.run rfl) hn2 hc2 (by omega)
                        (growslice_fits hc2 (by rw [hb];exact h1))
                      obtain ⟨f1,f2,f3,f4,f5,f6,f7⟩ := fresh xs olds cap ho1 hc1 hc2 h2 _ rfl
                      refine done _ ⟨E.w.heap.size,.slice (some ⟨E.w.heap.size,0,none⟩) (xs.length + ys.length) (grownCap E.w (xs.length + ys.length) cap e),t.size⟩ none f1 (fun b hb => by cases hb) (fun hx => ?_) (fun _ => .inr (Nat.le_refl _)) rfl (by rw [hbase];exact hrun)
                      refine ⟨by simp [Env.put,upd_same],by simp only [Env.put,upd_same],hpos,e,_,f6.mono hx.S,.inr ⟨_,_,by simp only [Env.put,upd_same,List.length_append],by simp only [Env.put,upd_same];exact f2,f3,?_,f4,f5,f7⟩⟩
                      have := grownCap_ge E.w (xs.length + ys.length) cap e
                      omega
                    rcases h10 with ⟨a,hv0,rfl⟩ | ⟨cap,cur,hv1,hv2,hv3,hv4,hv5,hv6,hv7⟩
                    · by_cases hm : ys.length = 0
                      · have : ys = [] := List.eq_nil_of_length_eq_zero hm
                        subst this
                        have hrun := append_nothing (P := P) (ty := ty) ht hi E.w (a := a) (news := news) (c := d) (by simpa using hn2)
                        refine done E.w (E.loc l) none ⟨rfl,rfl,rfl,Nat.le_refl _,fun _ _ _ => rfl⟩ (fun b hb => by cases hb) (fun hx => ?_) (fun hh => absurd ⟨a,hv0⟩ hh) (by rw [hv0];rfl) (by rw [hv0];exact hrun)
                        exact ⟨by simp [Env.put,upd_same],by simp only [Env.put,upd_same];exact hesz,hpos,e,[],rfl,.inl ⟨a,by simp only [Env.put,upd_same];exact hv0,rfl⟩⟩
                      · exact grow a 0 hv0 (by simp) (by simp;omega)
                    · rcases Nat.lt_or_ge cap (xs.length + ys.length) with hlt' | hge
                      · exact grow _ cap hv1 hv3 hlt'
                      · have hol := ho1.length
                        have hcsl := h9.length
                        have hfit : xs.length * info.size + news.length ≤ cur.size := by
                          rw [hsT,hnl,hv6,← Nat.add_mul];exact Nat.mul_le_mul_right _ hge
                        have hv2' : E.w.heap[(E.loc l).b]? = some (.cells cur e' (0,0)) := hv2
                        have hrun := append_fits' (P := P) (ty := ty) ht hi E.w hv2' hn2 hn1.one hge hfit
                        have hhas : (Obj.row t xs ver').has (E.loc l) := by
                          rintro ⟨a,ha⟩;rw [hv1] at ha;injection ha with _ e1;omega
                        refine done _ ⟨(E.loc l).b, .slice (some ⟨(E.loc l).b, 0, none⟩) (xs.length + ys.length) cap, t.size⟩ (some (E.loc l).b) (grown_setRow _ _ _) (fun b e => ⟨hhas, by cases e; rfl⟩) (fun hx => ?_)
                          (fun _ => .inl ⟨hhas,rfl⟩) rfl (by rw [hv1];exact hrun)
                        refine ⟨by simp [Env.put, upd_same], by simp only [Env.put, upd_same], hpos, e', _, (h9.append hn1).mono hx.S, .inr ⟨cap, _, by simp only [Env.put, upd_same, List.length_append],
                          by simp only [Env.put,upd_same];exact setRow_heap _ _ _ _ _ _ hv2',by rw [List.length_append];exact hge,hv4,hv5,?_,?_⟩⟩
                        · simp only [List.size_toArray,List.length_append,List.length_take,List.length_drop,Array.length_toList];omega
                        · rw [hsT,hv7]
                          exact take_app rfl _ _ (by rw [List.length_append,hcsl,hnl,Nat.add_mul])
                  · cases h
                · cases h
              · cases h
            · cases h
          · cases h
        · cases h
      · cases h
    · cases h
  · cases h

end Go.Proofs.Ytlncingakpelbaa

namespace Go.Proofs.Ytlncingakpelbaa
open Go
set_option linter.unusedVariables false

variable {P : Program} {τ : TyTab} {E : Env} {objs : List Obj}

theorem row_len {l : Nat} {T : Ty} {xs : List T.den} {ver : Nat} (h : ObjAt E l (.row T xs ver)) : ∃ a cap,(E.loc l).v = .slice a xs.length cap := by
  obtain ⟨_,_,_,e',cs,h9,h10⟩ := h
  rcases h10 with ⟨a,hv,rfl⟩ | ⟨cap,cur,hv1,_⟩
  · exact ⟨a,0,hv⟩
  · exact ⟨_,cap,hv1⟩

theorem effLen_ok (hτ : TabOk P τ) {t ty : TypeId} {x : V} {out : Out} (h : effLen τ objs t x = some out) (ho : okP out.ob) (g : Good E objs) {c : Value} (r : Rep E x c) :
    RanV P (Builtin.len_ #[t] ty #[c]) E objs out := by
  unfold effLen at h
  split at h
  · rename_i e sz by_ zero co T l hti
    cases h
    have ht : P.underlying t = some (.slice e) := (hτ t _ hti).kind
    obtain ⟨a,cap,hc,_⟩ := sl_inv r
    have hc' : c = .slice a (List.length (α := T.den) l) cap := by simpa using hc
    subst hc'
    exact .same g (v := .int .i64 (List.length (α := T.den) l)) (by simp [Builtin.len_,run_underlying ht,goInt]) (.mk_int _ _)
  · rename_i e sz by_ zero co hti
    cases h
    have ht : P.underlying t = some (.slice e) := (hτ t _ hti).kind
    cases r
    exact .same g (v := .int .i64 0) (by simp [Builtin.len_,run_underlying ht,goInt]) (.mk_int _ _)
  · rename_i e sz by_ zero co l ver hti
    have ht : P.underlying t = some (.slice e) := (hτ t _ hti).kind
    split at h
    · rename_i T xs ver' hcs
      split at h
      · rename_i hv
        cases h
        have hat := g.at_ _ _ hcs
        rw [osl_inv r hat.1 hv]
        obtain ⟨a,cap,e⟩ := row_len hat
        rw [e]
        exact .same g (v := .int .i64 xs.length) (by simp [Builtin.len_,run_underlying ht,goInt]) (.mk_int _ _)
      · cases h
    · cases h
  · rename_i e sz by_ zero co l ver n hti
    have ht : P.underlying t = some (.slice e) := (hτ t _ hti).kind
    split at h
    · rename_i T xs ver' hcs
      split at h
      · rename_i hv
        cases h
        have hat := g.at_ _ _ hcs
        rw [osp_inv r hat.1 hv]
        obtain ⟨a,cap,e⟩ := row_len hat
        rw [e]
        exact .same g (v := .int .i64 n) (by simp [partSlice,Builtin.len_,run_underlying ht,goInt]) (.mk_int _ _)
      · cases h
    · cases h
  · rename_i sz by_ zero co s hti
    cases h
    have ht : P.underlying t = some .string := (hτ t _ hti).kind
    rw [r.str_inv]
    exact .same g (v := .int .i64 s.size) (by simp [Builtin.len_,run_underlying ht,goInt]) (.mk_int _ _)
  · rename_i n e sz by_ zero co hti
    cases h
    have ht : P.underlying t = some (.array n e) := (hτ t _ hti).kind
    exact .same g (v := .int .i64 n) (by simp [Builtin.len_,run_underlying ht,goInt]) (.mk_int _ _)
  · cases h

theorem CellsL.take {w : World} {S : Nat → Prop} {t : Ty} : ∀ {l : List t.den} {cs : List Value} (n : Nat),CellsL w S t l cs → CellsL w S t (l.take n) (cs.take (n * t.size))
  | l,cs,0,_ => by simp [CellsL]
  | [],cs,n + 1,h => by rw [show cs = [] from h];simp [CellsL]
  | x :: l,cs,n + 1,⟨c1,c2,h,h1,h2⟩ => by
    have hl := h1.length
    refine ⟨c1,c2.take (n * t.size),?_,h1,h2.take n⟩
    rw [h,Nat.succ_mul,← hl,Nat.add_comm,List.take_length_add_append,hl]
theorem CellsL.drop {w : World} {S : Nat → Prop} {t : Ty} : ∀ {l : List t.den} {cs : List Value} (n : Nat),CellsL w S t l cs → CellsL w S t (l.drop n) (cs.drop (n * t.size))
  | l,cs,0,h => by simpa using h
  | [],cs,n + 1,h => by rw [show cs = [] from h];simp [CellsL]
  | x :: l,cs,n + 1,⟨c1,c2,h,h1,h2⟩ => by
    have hl := h1.length
    rw [h,Nat.succ_mul,← hl,show n * c1.length + c1.length = c1.length + n * c1.length from Nat.add_comm _ _,List.drop_length_add_append,hl]
    exact h2.drop n

theorem effCopy_ok (hτ : TabOk P τ) {td tx ty : TypeId} {d x : V} {out : Out} (h : effCopy τ objs td tx d x = some out) (ho : okP out.ob) (g : Good E objs) {c c' : Value} (rd : Rep E d c) (rx : Rep E x c') :
    RanV P (Builtin.copy_ #[td,tx] ty #[c,c']) E objs out := by
  unfold effCopy at h
  split at h
  · rename_i e sz by_ zero co e2 sz2 by2 zero2 co2 hti hti2
    have ht : P.underlying td = some (.slice e) := (hτ td _ hti).kind
    split at h
    · rename_i ei hei
      have hei := hτ e _ hei
      split at h
      · rename_i T hT
        obtain ⟨hTs,hpos,hz0⟩ := hei.code T hT
        rw [← hTs] at hpos
        obtain ⟨info,z,hi,hs,hb,hz,hzl,hzs⟩ := hei.info
        have hsT : info.size = T.size := by rw [hs,hTs]
        split at h
        · rename_i ys l ver hys
          split at h
          · rename_i t xs ver' hcs
            split at h
            · rename_i hT'
              subst hT'
              split at h
              · rename_i hv
                cases h
                have hat := g.at_ _ _ hcs
                have hc := osl_inv rd hat.1 hv
                subst hc
                obtain ⟨news,hn1,hn2⟩ := sl_src (asSl_inv hys rx)
                have hnl := hn1.length
                obtain ⟨hver,hesz,_,e',cs,h9,h10⟩ := id hat
                -- the source's first elements
                have hsrc : ∀ n,n ≤ ys.length → SrcAt E.w t.size n (news.take (n * t.size)) (partSlice c' n) := by
                  intro n hn
                  obtain ⟨_,a,cap,hc',hx⟩ := hn2
                  subst hc'
                  have : n * t.size ≤ ys.length * t.size := Nat.mul_le_mul_right _ hn
                  refine ⟨by rw [List.length_take,hnl];omega,a,cap,rfl,fun hp => ?_⟩
                  obtain ⟨ad,h1,h2⟩ := hx (by omega)
                  refine ⟨ad,h1,fun j v hj => h2 j v ?_⟩
                  rw [List.getElem?_take] at hj
                  split at hj
                  · exact hj
                  · cases hj
                have hfirst : ∀ n,n ≤ ys.length → (Builtin.firstCells info.size n c').run P E.w = .ok (news.take (n * t.size)).toArray E.w := by
                  intro n hn
                  have := (hsrc n hn).run (P := P) (w' := E.w) rfl
                  rw [← hsT] at this ⊢
                  obtain ⟨_,a,cap,hc',hx⟩ := hn2
                  subst hc'
                  cases a <;> simpa [partSlice,Builtin.firstCells] using this
                have hlen : ∀ w,(Builtin.lenOf c').run P w = .ok ys.length w := by
                  intro w
                  obtain ⟨_,a,cap,hc',hx⟩ := hn2
                  subst hc'
                  simp [Builtin.lenOf]
                have hmin : Nat.min ys.length xs.length = min ys.length xs.length := rfl
                have hm1 : min ys.length xs.length ≤ ys.length := Nat.min_le_left _ _
                have hm2 : min ys.length xs.length ≤ xs.length := Nat.min_le_right _ _
                have hlt : l < objs.length := (List.getElem?_eq_some_iff.1 hcs).1
                rcases h10 with ⟨a,hv0,rfl⟩ | ⟨cap,cur,hv1,hv2,hv3,hv4,hv5,hv6,hv7⟩
                · have h0 := hfirst 0 (Nat.zero_le _)
                  subst hv
                  have hset : objs.set l (.row t (List.take (min ys.length ([] : List t.den).length) ys ++ List.drop (min ys.length ([] : List t.den).length) []) ver) = objs := by
                    simp only [List.length_nil,Nat.min_zero,List.take_zero,List.drop_nil,List.append_nil]
                    exact List.ext_getElem? fun j => by rw [List.getElem?_set];split <;> simp_all
                  refine ⟨E,.int .i64 (0 : Nat),?_,?_,?_,?_⟩
                  · rw [hv0]
                    cases a <;> simp [Builtin.copy_,run_underlying ht,hlen,sizeOf_run hi,h0,goInt,storeCells]
                  · show Good E (objs.set l (.row t (List.take (min ys.length ([] : List t.den).length) ys ++ List.drop (min ys.length ([] : List t.den).length) []) ver))
                    rw [hset];exact g
                  · show Step E objs E (objs.set l (.row t (List.take (min ys.length ([] : List t.den).length) ys ++ List.drop (min ys.length ([] : List t.den).length) []) ver))
                    rw [hset];exact .refl _ _
                  · simpa using Rep.mk_int .i64 0
                · let n := min ys.length xs.length
                  let vs := news.take (n * t.size)
                  have hn1' : n * t.size ≤ ys.length * t.size := Nat.mul_le_mul_right _ hm1
                  have hn2' : n * t.size ≤ xs.length * t.size := Nat.mul_le_mul_right _ hm2
                  have hn3' : xs.length * t.size ≤ cap * t.size := Nat.mul_le_mul_right _ hv3
                  have hvl : vs.length = n * t.size := by show (news.take (n * t.size)).length = _;rw [List.length_take,hnl];omega
                  have hvc : CellsL E.w E.S t (ys.take n) vs := hn1.take n
                  have hst := run_storeCells_at P (E.loc l).b 0 e' vs 0 cur E.w hv2 (by rw [hvl,hv6];omega) hvc.one
                  simp only [Nat.add_zero,Nat.zero_add,List.take_zero,List.nil_append] at hst
                  have hhas : (Obj.row t xs ver').has (E.loc l) := by
                    rintro ⟨a,ha⟩;rw [hv1] at ha;injection ha with _ e1;omega
                  have hgr := grown_setRow E.w (E.loc l).b (vs ++ cur.toList.drop vs.length).toArray
                  have hrow : ∀ b,some (E.loc l).b = some b → (Obj.row t xs ver').has (E.loc l) ∧ b = (E.loc l).b := fun b e => ⟨hhas,by cases e;rfl⟩
                  have hx := put_ext g hcs hgr hrow hat.1 (Nat.le_refl ver') (fun _ => rfl)
                  have hdrop : CellsL E.w E.S t (xs.drop n) (cs.drop (n * t.size)) := h9.drop n
                  have hlenx : (ys.take n ++ xs.drop n).length = xs.length := by simp only [List.length_append,List.length_take,List.length_drop];omega
                  have hnew := Good.put g (o' := .row t (ys.take n ++ xs.drop n) ver') hcs hgr hrow hat.1 (Nat.le_refl ver') (fun _ => rfl)
                    ⟨by simp [Env.put, upd_same], by simp only [Env.put, upd_same]; exact hesz, hpos, e', _, (hvc.append hdrop).mono hx.S, .inr ⟨cap, _, by simp only [Env.put, upd_same, hlenx]; exact hv1,
                      by simp only [Env.put,upd_same];exact setRow_heap _ _ _ _ _ _ hv2,by rw [hlenx];exact hv3,hv4,hv5,by simp only [List.size_toArray,List.length_append,List.length_drop,Array.length_toList];omega,by
                        rw [hlenx,List.take_append,hvl,List.take_of_length_le (by omega)]
                        congr 1
                        rw [← hv7,List.drop_take]⟩⟩ (fun _ => .inl ⟨hhas,rfl⟩)
                  subst hv
                  refine ⟨_,.int .i64 (n : Nat),?_,hnew.1,hnew.2,.mk_int _ _⟩
                  rw [hv1]
                  have h0 := hfirst n hm1
                  simp only [Builtin.copy_,List.getElem?_toArray,List.getElem?_cons_zero,List.getElem?_cons_succ,Sem.run_bind,run_underlying ht,Result.andThen_ok,hlen,sizeOf_run hi]
                  show ((Builtin.firstCells info.size n c').run P E.w).andThen _ = _
                  rw [h0]
                  simp only [Result.andThen_ok]
                  show ((storeCells _ vs).run P E.w).andThen _ = _
                  rw [hst]
                  rfl
              · cases h
            · cases h
          · cases h
        · cases h
      · cases h
    · cases h
  · cases h

theorem bound_run {v : V} {c : Value} {k : IntKind} {i : Int} (h : asInt v = some (k, i)) (r : Rep E v c) {y : Nat} {code : BoundsCode} (h0 : 0 ≤ i) (h1 : i ≤ (y : Int)) (w : World) :
    (Instr.sliceBound c y code).run P w = .ok i.toNat w := by
  rw [asInt_inv h r]
  simp [Instr.sliceBound,asIntOf,h0,h1]

/-- A part of a stable slice. -/
theorem cells_part {T : Ty} {l : List T.den} {a : Option Addr} {n cap : Nat} (h : Cells E.w E.S (.sl T) l [.slice a n cap]) (hpos : 0 < T.size) (lo hi : Nat) (h1 : lo ≤ hi) (h2 : hi ≤ l.length) :
    Cells E.w E.S (.sl T) ((l.take hi).drop lo) [.slice (if cap = lo then a else a.map (·.add (lo * T.size))) (hi - lo) (cap - lo)] := by
  obtain ⟨a',cap',hc,hcap,hl⟩ := h
  simp only [List.cons.injEq,Value.slice.injEq,and_true] at hc
  obtain ⟨rfl,rfl,rfl⟩ := hc
  have hlen : ((l.take hi).drop lo).length = hi - lo := by simp;omega
  refine ⟨_,_,by rw [hlen],by rw [hlen];omega,fun hne => ?_⟩
  have hlt : lo < hi := by
    rcases Nat.lt_or_ge lo hi with h | h
    · exact h
    · exact absurd (List.eq_nil_of_length_eq_zero (by rw [hlen];omega)) hne
  obtain ⟨b,off,rfl,hS,hx⟩ := hl (fun e => by rw [e] at h2;simp at h2;omega)
  refine ⟨b,off + lo * T.size,?_,hS,fun i x hi' => ?_⟩
  · rw [if_neg (by omega)];simp [Addr.add_lit]
  · rw [List.getElem?_drop,List.getElem?_take] at hi'
    split at hi'
    · obtain ⟨cs,h3,h4⟩ := hx (lo + i) x hi'
      refine ⟨cs,h3,fun j u hj => ?_⟩
      rw [show off + lo * T.size + i * T.size + j = off + (lo + i) * T.size + j from by rw [Nat.add_mul];omega]
      exact h4 j u hj
    · cases hi'

theorem effSlice_ok (hτ : TabOk P τ) {t : TypeId} {x : V} {lo hi : Option V} {out : Out} (h : effSlice τ objs t x lo hi = some out) (ho : okP out.ob) (g : Good E objs) {c : Value} {lo' hi' : Option Value} (rx : Rep E x c)
    (rl : ∀ v,lo = some v → ∃ u,lo' = some u ∧ Rep E v u) (rl' : lo = none → lo' = none) (rh : ∀ v,hi = some v → ∃ u,hi' = some u ∧ Rep E v u) (rh' : hi = none → hi' = none) :
    RanV P (Instr.sliceAt t c lo' hi' none) E objs out := by
  unfold effSlice at h
  split at h
  · rename_i e sz by_ zero co T l hti
    have ht : P.underlying t = some (.slice e) := (hτ t _ hti).kind
    split at h
    · rename_i ei hei
      have hei := hτ e _ hei
      obtain ⟨info,z,hinf,hs,hb,hz,hzl,hzs⟩ := hei.info
      split at h
      · rename_i hsz
        obtain ⟨hsz,hpos⟩ := hsz
        have hc := sl_inv rx
        obtain ⟨a,cap,hc',hcap,_⟩ := id hc
        have hc'' : c = .slice a (List.length (α := T.den) l) cap := by simpa using hc'
        subst hc''
        have run : ∀ (lo hi : Nat) , lo ≤ hi → hi ≤ List.length (α := T.den) l →
            (∀ w,(Instr.sliceBounds true (List.length (α := T.den) l) cap lo' hi' none).run P w = .ok (lo,hi,cap) w) → ∀ p,RanV P (Instr.sliceAt t (.slice a (List.length (α := T.den) l) cap) lo' hi' none) E objs
              ⟨p,.d (.sl T) ((List.take (α := T.den) hi l).drop lo),objs⟩ := by
          intro lo hi h1 h2 hrun p
          have hp := cells_part hc hpos lo hi h1 h2
          refine .same g ?_ (.d hp)
          simp [Instr.sliceAt,run_underlying ht,Instr.slice,hrun,sizeOf_run hinf,hs,hsz]
        simp only [] at h
        split at h
        · cases h
          have := run 0 (List.length (α := T.den) l) (Nat.zero_le _) (Nat.le_refl _) (fun w => by rw [rl' rfl,rh' rfl];simp [Instr.sliceBounds]) none
          simpa using this
        · rename_i h'
          split at h
          · rename_i k i hk
            cases h
            obtain ⟨h0,h1⟩ : (0 : Int) ≤ i ∧ i ≤ (List.length (α := T.den) l : Int) := ho
            obtain ⟨u,hu,ru⟩ := rh _ rfl
            have := run 0 i.toNat (Nat.zero_le _) (by omega) (fun w => by
              rw [rl' rfl,hu]
              simp [Instr.sliceBounds,bound_run hk ru h0 (show i ≤ (cap : Int) by omega)]) (some (0 ≤ i ∧ i ≤ (List.length (α := T.den) l : Int)))
            simpa using this
          · cases h
        · rename_i a'
          split at h
          · rename_i k i hk
            cases h
            obtain ⟨h0,h1⟩ : (0 : Int) ≤ i ∧ i ≤ (List.length (α := T.den) l : Int) := ho
            obtain ⟨u,hu,ru⟩ := rl _ rfl
            have := run i.toNat (List.length (α := T.den) l) (by omega) (Nat.le_refl _) (fun w => by
              rw [rh' rfl,hu]
              simp [Instr.sliceBounds,bound_run hk ru h0 h1]) (some (0 ≤ i ∧ i ≤ (List.length (α := T.den) l : Int)))
            simpa using this
          · cases h
        · rename_i a' h'
          split at h
          · rename_i k i k2 i2 hk hk2
            cases h
            obtain ⟨h0,h1,h2⟩ : (0 : Int) ≤ i ∧ i ≤ i2 ∧ i2 ≤ (List.length (α := T.den) l : Int) := ho
            obtain ⟨u,hu,ru⟩ := rl _ rfl
            obtain ⟨u2,hu2,ru2⟩ := rh _ rfl
            have e2 : ((i2.toNat : Nat) : Int) = i2 := Int.toNat_of_nonneg (by omega)
            exact run i.toNat i2.toNat (by omega) (by omega) (fun w => by
              rw [hu,hu2]
              simp [Instr.sliceBounds,bound_run hk ru h0 (show i ≤ ((i2.toNat : Nat) : Int) by omega),bound_run hk2 ru2 (show (0 : Int) ≤ i2 by omega) (show i2 ≤ (cap : Int) by omega)]) _
          · cases h
      · cases h
    · cases h
  · cases h

end Go.Proofs.Ytlncingakpelbaa

namespace Go.Proofs.Ytlncingakpelbaa
open Go
set_option linter.unusedVariables false

variable {P : Program} {τ : TyTab} {E : Env}

/-! ## One operation -/
def Ran (P : Program) (o : Oper) (ρ : Operand → Value) (E : Env) (objs : List Obj) (out : Out) : Prop :=
  ∃ E' n v,(execOp ρ o).run P E.w = .ok n E'.w ∧ (n = .value v ∨ (n = .skip ∧ v = undef)) ∧ Good E' out.objs ∧ Step E objs E' out.objs ∧ Rep E' out.v v

theorem RanV.ran {o : Oper} {ρ : Operand → Value} {objs : List Obj} {out : Out} {s : Sem Value} (h : RanV P s E objs out) (he : execOp ρ o = (do let v ← s;pure (Next.value v))) : Ran P o ρ E objs out := by
  obtain ⟨E',v,h1,h2,h3,h4⟩ := h
  exact ⟨E',.value v,v,by rw [he];simp [h1],.inl rfl,h2,h3,h4⟩

theorem Reps.of_map {s : St} {ρ : Operand → Value} : ∀ {xs : List Operand},(∀ x ∈ xs,Rep E (s.ev x) (ρ x)) → Reps E (xs.map s.ev) (xs.map ρ)
  | [],_ => .nil
  | x :: xs,h => .cons (h x (by simp)) (Reps.of_map fun y hy => h y (by simp [hy]))

set_option maxHeartbeats 1000000 in
theorem eff_ok (hτ : TabOk P τ) {hx : Bool} {o : Oper} {s : St} {out : Out} (h : eff τ hx o.op s = some out) (ho : okP out.ob) (g : Good E s.objs) {ρ : Operand → Value}
    (hρ : ∀ x ∈ o.op.operands,Rep E (s.ev x) (ρ x)) (hc : ∀ v,ρ (.const v) = v) : Ran P o ρ E s.objs out := by
  obtain ⟨dst,op,type,pos,after,guard⟩ := o
  cases op <;> simp only [eff] at h <;> try (cases h;done)
  case move x =>
    cases h
    exact (RanV.same g (s := pure (ρ x)) (by simp) (hρ x (by simp [Op.operands]))).ran rfl
  case assign x =>
    cases h
    exact (RanV.same g (s := pure (ρ x)) (by simp) (hρ x (by simp [Op.operands]))).ran rfl
  case pick c a b =>
    have := effPick_ok (P := P) h ho g (hρ c (by simp [Op.operands])) (hρ a (by simp [Op.operands])) (hρ b (by simp [Op.operands])) (fun v e => by subst e;exact hc _) (fun v e => by subst e;exact hc _)
    exact this.ran (by simp [execOp])
  case alloc t => exact (effAlloc_ok hτ h g).ran rfl
  case box t x => exact (effBox_ok h g (hρ x (by simp [Op.operands]))).ran rfl
  case build t parts =>
    refine (effBuild_ok (vals := parts.map fun (i,x) => (i,ρ x)) hτ h g (by simp) (fun j p q hp hq => ?_)).ran rfl
    simp only [Array.toList_map,List.getElem?_map,Option.map_eq_some_iff] at hp hq
    obtain ⟨x,hx1,rfl⟩ := hp
    obtain ⟨y,hy1,rfl⟩ := hq
    rw [hx1] at hy1
    cases hy1
    exact hρ _ (by simp only [Op.operands];exact List.mem_toArray.2 (List.mem_map.2 ⟨x,List.mem_of_getElem? hx1,rfl⟩))
  case buildSlice t n parts =>
    refine (effBuildSlice_ok (vals := parts.map fun (i,x) => (i,ρ x)) hτ h ho g (by simp) (fun j p q hp hq => ?_)).ran rfl
    simp only [Array.toList_map,List.getElem?_map,Option.map_eq_some_iff] at hp hq
    obtain ⟨x,hx1,rfl⟩ := hp
    obtain ⟨y,hy1,rfl⟩ := hq
    rw [hx1] at hy1
    cases hy1
    exact hρ _ (by simp only [Op.operands];exact List.mem_toArray.2 (List.mem_map.2 ⟨x,List.mem_of_getElem? hx1,rfl⟩))
  case load t a => exact (effLoad_ok hτ h ho g (hρ a (by simp [Op.operands]))).ran rfl
  case store t a x =>
    obtain ⟨E',h1,h2,h3⟩ := effStore_ok hτ h ho g (hρ a (by simp [Op.operands])) (hρ x (by simp [Op.operands]))
    have hv : out.v = .tup [] := by
      unfold effStore at h
      repeat' split at h
      all_goals first | (cases h;done) | (simp only [Option.map_eq_some_iff,Option.bind_eq_some_iff] at h;obtain ⟨_,_,rfl⟩ := h;rfl)
    exact ⟨E',.skip,undef,by simp [execOp,h1],.inr ⟨rfl,rfl⟩,h2,h3,by rw [hv];exact .tup rfl (fun j hj => by simp at hj)⟩
  case nilCheck x =>
    have r := hρ x (by simp [Op.operands])
    split at h
    · rename_i l v o e
      split at h
      · rename_i cs hcs
        split at h
        · rename_i hv
          cases h
          subst hv
          rw [e] at r
          have hq := ref_inv r (g.at_ _ _ hcs).1 rfl
          exact (RanV.same g (s := pure (ρ x)) (by simp) r).ran (by simp [execOp,hq])
        · cases h
      · cases h
    · rename_i cs e
      cases h
      rw [e] at r
      obtain ⟨b,off,vals,hq,_⟩ := er_inv r
      exact (RanV.same g (s := pure (ρ x)) (by simp) r).ran (by simp [execOp,hq])
    · rename_i b cs e
      cases h
      rw [e] at r
      cases r with
      | opt h1 h2 =>
        have r' := h1 ho
        obtain ⟨b,off,vals,hq,_⟩ := er_inv r'
        exact (RanV.same g (s := pure (ρ x)) (by simp) r').ran (by simp [execOp,hq])
    · rename_i f a b e
      cases h
      rw [e] at r
      cases hq : ρ x with
      | func fn fs cs =>
        rw [hq] at r
        have r2 := r
        cases r2
        exact (RanV.same g (s := pure (.func (.func f) fs cs)) (by simp) r).ran (by simp [execOp,hq])
      | _ => rw [hq] at r;cases r
    · cases h
  case binOp op xt x y yt => exact (effBin_ok (ox := x) (oy := y) hτ h ho g (hρ x (by simp [Op.operands])) (hρ y (by simp [Op.operands]))).ran rfl
  case unOp op xt x => exact (effUn_ok h ho g (hρ x (by simp [Op.operands]))).ran rfl
  case convert a b x => exact (effConvert_ok hτ h ho g (hρ x (by simp [Op.operands]))).ran rfl
  case makeFunc f a b =>
    cases h
    have h1 : Reps E (a.toList.map s.ev) (a.toList.map ρ) := Reps.of_map fun x hx => hρ x (by simp [Op.operands,Array.mem_toList_iff.1 hx])
    have h2 : Reps E (b.toList.map s.ev) (b.toList.map ρ) := Reps.of_map fun x hx => hρ x (by simp [Op.operands,Array.mem_toList_iff.1 hx])
    refine (RanV.same g (s := Instr.makeFunc f (a.map ρ) (b.map ρ)) (v := .func f (a.map ρ) (b.map ρ)) (by simp [Instr.makeFunc]) (.fn (by simp) (by simp) (fun j hj => ?_) (fun j hj => ?_))).ran rfl
    · have := h1.2 j hj
      simpa [Array.getD_eq_getD_getElem?,List.getD_eq_getElem?_getD] using this
    · have := h2.2 j hj
      simpa [Array.getD_eq_getD_getElem?,List.getD_eq_getElem?_getD] using this
  case makeSlice t l c => exact (effMakeSlice_ok hτ h ho g (hρ l (by simp [Op.operands])) (hρ c (by simp [Op.operands]))).ran rfl
  case slice t x lo hi mx =>
    cases mx with
    | some _ => cases h
    | none =>
      refine (effSlice_ok (lo' := lo.map ρ) (hi' := hi.map ρ) hτ h ho g (hρ x (by simp [Op.operands])) (fun v hv => ?_) (fun hv => ?_) (fun v hv => ?_) (fun hv => ?_)).ran rfl
      · cases lo with
        | none => cases hv
        | some y => cases hv;exact ⟨_,rfl,hρ y (by simp [Op.operands])⟩
      · cases lo with
        | none => rfl
        | some y => cases hv
      · cases hi with
        | none => cases hv
        | some y => cases hv;exact ⟨_,rfl,hρ y (by simp [Op.operands])⟩
      · cases hi with
        | none => rfl
        | some y => cases hv
  case fieldAddr t x f => exact (effFieldAddr_ok hτ h ho g (hρ x (by simp [Op.operands]))).ran rfl
  case indexAddr t x i => exact (effIndexAddr_ok hτ h ho g (hρ x (by simp [Op.operands])) (hρ i (by simp [Op.operands]))).ran rfl
  case extract x i =>
    have r := hρ x (by simp [Op.operands])
    split at h
    · rename_i vs e
      simp only [Option.map_eq_some_iff] at h
      obtain ⟨v,hv,rfl⟩ := h
      rw [e] at r
      cases hq : ρ x with
      | tuple us =>
        rw [hq] at r
        cases r with
        | tup h1 h2 =>
          have hi : i < vs.length := (List.getElem?_eq_some_iff.1 hv).1
          have := h2 i hi
          rw [List.getD_eq_getElem?_getD,hv] at this
          have hu : us[i]? = some (us.getD i undef) := by
            rw [Array.getD_eq_getD_getElem?,Array.getElem?_eq_getElem (by omega)];rfl
          exact (RanV.same g (s := Instr.extract (ρ x) i) (v := us.getD i undef) (by rw [hq];simp only [Instr.extract,hu];rfl) this).ran rfl
      | _ => rw [hq] at r;cases r
    · cases h
  case call c =>
    obtain ⟨callee,args,argTypes⟩ := c
    cases callee <;> simp only at h <;> try (cases h;done)
    rename_i b
    have hargs : ∀ x ∈ args.toList,Rep E (s.ev x) (ρ x) := fun x hx => hρ x (by simp [Op.operands,Call.operands,Array.mem_toList_iff.1 hx])
    obtain ⟨al⟩ := args
    obtain ⟨tl⟩ := argTypes
    simp only [effBuiltin] at h
    split at h
    · rename_i t x e2
      obtain ⟨y,rfl,rfl⟩ := List.map_eq_singleton_iff.1 e2
      exact (effLen_ok (ty := type) hτ h ho g (hargs y (by simp))).ran (by simp [execOp,resolve,invoke,builtin])
    · rename_i t u x y e2
      match al,e2 with
      | [a,b],e2 =>
        simp only [List.map_cons,List.map_nil,List.cons.injEq,and_true] at e2
        obtain ⟨rfl,rfl⟩ := e2
        exact (effAppend_ok (ty := type) hτ h ho g (hargs a (by simp)) (hargs b (by simp))).ran (by simp [execOp,resolve,invoke,builtin])
    · rename_i t u x y e2
      match al,e2 with
      | [a,b],e2 =>
        simp only [List.map_cons,List.map_nil,List.cons.injEq,and_true] at e2
        obtain ⟨rfl,rfl⟩ := e2
        exact (effCopy_ok (ty := type) hτ h ho g (hargs a (by simp)) (hargs b (by simp))).ran (by simp [execOp,resolve,invoke,builtin])
    · rename_i x y e2
      match al,e2 with
      | [a,b],e2 =>
        simp only [List.map_cons,List.map_nil,List.cons.injEq,and_true] at e2
        obtain ⟨rfl,rfl⟩ := e2
        exact (effMinMax_ok (mx := false) h g (hargs a (by simp)) (hargs b (by simp)) ⟨_⟩ type).ran (by simp [execOp,resolve,invoke,builtin];rfl)
    · rename_i x y e2
      match al,e2 with
      | [a,b],e2 =>
        simp only [List.map_cons,List.map_nil,List.cons.injEq,and_true] at e2
        obtain ⟨rfl,rfl⟩ := e2
        exact (effMinMax_ok (mx := true) h g (hargs a (by simp)) (hargs b (by simp)) ⟨_⟩ type).ran (by simp [execOp,resolve,invoke,builtin];rfl)
    · cases h

end Go.Proofs.Ytlncingakpelbaa

namespace Go.Proofs.Ytlncingakpelbaa
open Go
set_option linter.unusedVariables false

/-! ## Abstract states of a call,rules for its code -/
structure Cx where
  E : Env
  imp : List Obj
  dfs : List Deferred

def Rel (cx : Cx) (s : St) (a : Act) (w : World) : Prop :=
  ∃ E,E.w = w ∧ Good E s.objs ∧ Step cx.E cx.imp E s.objs ∧ a.tmps.size = s.nt ∧ a.defers = cx.dfs ∧ ∀ t,Rep E (s.get t) (a.tmps.getD t undef)

/-- One state says less than another. -/
def Wk (cx : Cx) (s s' : St) : Prop := ∀ a w,Rel cx s a w → Rel cx s' a w

def Lift (cx : Cx) (Q : Exit → St → Prop) : Exit → Act → World → Prop := fun e a w => ∃ s,Q e s ∧ Rel cx s a w

def AWp (P : Program) (cx : Cx) (c : Code) (Q : Exit → St → Prop) (s : St) : Prop := ∀ a w,Rel cx s a w → c.wp P (Lift cx Q) a w

section rules
variable {P : Program} {τ : TyTab} {cx : Cx} {Q : Exit → St → Prop} {s : St}

theorem AWp.mono {c : Code} {Q' : Exit → St → Prop} (h : AWp P cx c Q s) (hq : ∀ e s,Q e s → Q' e s) : AWp P cx c Q' s :=
  fun a w r => wp_mono (h a w r) fun e a w ⟨s',h1,h2⟩ => ⟨s',hq _ _ h1,h2⟩

theorem awp_wk {c : Code} {s' : St} (hw : Wk cx s s') (h : AWp P cx c Q s') : AWp P cx c Q s := fun a w r => h a w (hw a w r)

theorem awp_skip (h : Q .normal s) : AWp P cx .skip Q s := fun a w r => wp_skip ⟨s,h,r⟩
theorem awp_exit {id : Nat} (h : Q (.exit id) s) : AWp P cx (.exit id) Q s := fun a w r => wp_exit ⟨s,h,r⟩
theorem awp_ret (h : Q .ret s) : AWp P cx .ret Q s := fun a w r => wp_ret ⟨s,h,r⟩

/-- Behind the first part: the second. -/
def Then (Q : Exit → St → Prop) (K : St → Prop) : Exit → St → Prop
  | .normal,s => K s
  | e,s => Q e s

theorem awp_seq {c d : Code} (h : AWp P cx c (Then Q (AWp P cx d Q)) s) : AWp P cx (.seq c d) Q s := by
  intro a w r
  refine wp_seq (wp_mono (h a w r) ?_)
  rintro e a w ⟨s',h1,h2⟩
  cases e <;> first | exact h1 a w h2 | exact ⟨s',h1,h2⟩

def InBlock (id : Nat) (Q : Exit → St → Prop) : Exit → St → Prop
  | .exit i,s => if i = id then Q .normal s else Q (.exit i) s
  | e,s => Q e s

theorem awp_block {id : Nat} {c : Code} (h : AWp P cx c (InBlock id Q) s) : AWp P cx (.block id c) Q s := by
  intro a w r
  refine wp_block (wp_mono (h a w r) ?_)
  rintro e a w ⟨s',h1,h2⟩
  cases e with
  | exit i =>
    simp only [InBlock] at h1
    simp only [Exit.inBlock]
    split <;> rename_i hi
    · rw [if_pos hi] at h1;exact ⟨s',h1,h2⟩
    · rw [if_neg hi] at h1;exact ⟨s',h1,h2⟩
  | _ => exact ⟨s',h1,h2⟩

theorem Rel.ev {a : Act} {w : World} {E : Env} (h : ∀ t,Rep E (s.get t) (a.tmps.getD t undef)) (x : Operand) : Rep E (s.ev x) (a.eval x) := by
  cases x with
  | tmp t => exact h t
  | const v => exact vconst_rep v
  | global g => exact .any _
  | func f => exact .fn rfl rfl (fun j hj => by simp at hj) (fun j hj => by simp at hj)

theorem awp_cond {x : Operand} {c d : Code} {b : Bool} (hb : s.ev x = .d .bool b) (ht : b = true → AWp P cx c Q s) (hf : b = false → AWp P cx d Q s) : AWp P cx (.cond x c d) Q s := by
  intro a w r
  obtain ⟨E,h1,h2,h3,h4,h5,h6⟩ := id r
  have := Rel.ev (w := w) h6 x
  rw [hb] at this
  exact wp_cond_split this.bool_inv (fun e => ht e a w r) (fun e => hf e a w r)

theorem least_of {D : Nat → Prop} (h : ∃ n,D n) : ∃ n,D n ∧ ∀ m,D m → n ≤ m := by
  obtain ⟨n,hn⟩ := h
  induction n using Nat.strongRecOn with
  | _ n ih =>
    by_cases h : ∃ m,m < n ∧ D m
    · obtain ⟨m,h1,h2⟩ := h;exact ih m h1 h2
    · exact ⟨n,hn,fun m hm => Nat.le_of_not_lt fun hlt => h ⟨m,hlt,hm⟩⟩

open Classical in
/-- A loop: 'I n s' is what holds at a round's head;each round lowers n. -/
theorem awp_loop {c : Code} (I : Nat → St → Prop) {n : Nat} (h0 : I n s) (round : ∀ n s,I n s → AWp P cx c (Then Q fun s' => ∃ m,m < n ∧ ∃ s'',Wk cx s' s'' ∧ I m s'') s) : AWp P cx (.loop c) Q s := by
  intro a w r
  let D (a : Act) (w : World) (n : Nat) : Prop := ∃ s,I n s ∧ Rel cx s a w
  let μ (a : Act) (w : World) : Nat := if h : ∃ n,D a w n then Classical.choose (least_of h) else 0
  refine wp_loop (fun a w => ∃ n,D a w n) μ ⟨n,s,h0,r⟩ (fun a w hI => ?_)
  have hμ : μ a w = Classical.choose (least_of hI) := dif_pos hI
  obtain ⟨s1,h1,h2⟩ := (Classical.choose_spec (least_of hI)).1
  refine wp_mono (round _ s1 h1 a w h2) ?_
  rintro e a' w' ⟨s',h3,h4⟩
  cases e with
  | normal =>
    obtain ⟨m,hm,s'',hw,h5⟩ := h3
    have hD : ∃ n,D a' w' n := ⟨m,s'',h5,hw _ _ h4⟩
    refine ⟨hD,?_⟩
    rw [hμ]
    refine Nat.lt_of_le_of_lt ?_ hm
    rw [show μ a' w' = Classical.choose (least_of hD) from dif_pos hD]
    exact (Classical.choose_spec (least_of hD)).2 m ⟨s'',h5,hw _ _ h4⟩
  | _ => exact ⟨s',h3,h4⟩

/-! ### Regions -/
def AOps (P : Program) (cx : Cx) (ops : Array Oper) (Q : Exit → St → Prop) (l : List Nat) (s : St) : Prop := ∀ a w,Rel cx s a w → wpOps P ops (Lift cx Q) l a w

theorem awp_region {id : Nat} {ops : Array Oper} (h : AOps P cx ops Q (List.range ops.size) s) : AWp P cx (.region id ops false) Q s :=
  fun a w r => wp_region (h a w r)

theorem aops_nil {ops : Array Oper} (h : Q .normal s) : AOps P cx ops Q [] s := fun a w r => ⟨s,h,r⟩
theorem aops_wk {ops : Array Oper} {l : List Nat} {s' : St} (hw : Wk cx s s') (h : AOps P cx ops Q l s') : AOps P cx ops Q l s := fun a w r => h a w (hw a w r)

/-- The state behind an operation: what it yields in its slot,the objects. -/
def St.after (s : St) (dst : Option Nat) (v : V) (objs : List Obj) : St :=
  match dst with
  | some d => { s with tmps := (d,v) :: s.tmps,objs }
  | none => { s with objs }

theorem look_cons (u t : Nat) (v : V) (l : List (Nat × V)) : look t ((u,v) :: l) = if u = t then v else look t l := by
  simp only [look]
  split
  · rename_i h;rw [if_pos (Nat.eq_of_beq_eq_true h)]
  · rename_i h;rw [if_neg (Nat.ne_of_beq_eq_false h)]

theorem getD_put {a : Act} {d t : Nat} {v : Value} (hd : d < a.tmps.size) : (a.put (some d) v).tmps.getD t undef = if d = t then v else a.tmps.getD t undef := by
  simp only [Act.put,Array.getD_eq_getD_getElem?,Array.getElem?_setIfInBounds]
  split
  · rename_i e;subst e;simp
  · rfl

/-- What is known behind a step. -/
theorem Rel.after {a : Act} {w : World} {E E' : Env} {dst : Option Nat} {v : V} {c : Value} {objs : List Obj} (hE : E.w = w) (hs : Step cx.E cx.imp E s.objs) (h4 : a.tmps.size = s.nt) (h5 : a.defers = cx.dfs)
    (h6 : ∀ t,Rep E (s.get t) (a.tmps.getD t undef)) (g : Good E' objs) (st : Step E s.objs E' objs) (r : Rep E' v c) (hd : ∀ d,dst = some d → d < s.nt) : Rel cx (s.after dst v objs) (a.put dst c) E'.w := by
  refine ⟨E',rfl,by cases dst <;> exact g,?_,?_,?_,fun t => ?_⟩
  · cases dst <;> exact hs.trans st
  · cases dst <;> simp [St.after,Act.put,h4]
  · cases dst <;> exact h5
  · cases dst with
    | none => exact (h6 t).mono st.ext
    | some d =>
      rw [getD_put (by rw [h4];exact hd d rfl)]
      show Rep E' (look t ((d,v) :: s.tmps)) _
      rw [look_cons]
      split
      · exact r
      · exact (h6 t).mono st.ext

/-- All obligations of a list. -/
def AllP : List Prop → Prop
  | [] => True
  | [p] => p
  | p :: l => p ∧ AllP l

theorem AllP.head {p : Prop} {l : List Prop} (h : AllP (p :: l)) : p := by cases l with | nil => exact h | cons q l => exact h.1
theorem AllP.tail {p : Prop} {l : List Prop} (h : AllP (p :: l)) : AllP l := by cases l with | nil => trivial | cons q l => exact h.2
theorem AllP.of {p : Prop} {l : List Prop} (h : p) (k : AllP l) : AllP (p :: l) := by cases l with | nil => exact h | cons q l => exact ⟨h,k⟩
theorem AllP.app : ∀ {l l' : List Prop},AllP (l ++ l') → AllP l ∧ AllP l'
  | [],_,h => ⟨trivial,h⟩
  | p :: l,l',h => by
    have h1 := AllP.app (l := l) (l' := l') (AllP.tail h)
    exact ⟨.of (AllP.head (l := l ++ l') h) h1.1,h1.2⟩

/-- The value behind a guard. -/
def V.bare : V → V
  | .when _ v => v
  | v => v
def St.bare (s : St) : St := { s with tmps := s.tmps.map fun p => (p.1,p.2.bare) }

def condOf (s : St) : Operand → Option Bool
  | .tmp t => match s.get t with
    | .when q _ => some q
    | _ => none
  | _ => none

/-- Which guards the operands stand behind. -/
def condsOf (s : St) : List Operand → List Bool
  | [] => []
  | x :: l => match condOf s x with
    | some q => q :: condsOf s l
    | none => condsOf s l

def allT : List Bool → Prop → Prop
  | [],p => p
  | q :: l,p => q = true ∧ allT l p

/-- The obligation of a guarded operation. -/
def guardOb (g : Bool) : List Bool → Option Prop → Option Prop
  | [],none => none
  | qs,ob => some (g = true → allT qs (okP ob))

theorem allT_inv {p : Prop} : ∀ {l : List Bool},allT l p → p ∧ ∀ q ∈ l,q = true
  | [],h => ⟨h,fun q hq => by simp at hq⟩
  | q :: l,h => by
    obtain ⟨h1,h2⟩ := allT_inv h.2
    exact ⟨h1,fun r hr => (List.mem_cons.1 hr).elim (fun e => e ▸ h.1) (h2 r)⟩

theorem guardOb_inv {g : Bool} {qs : List Bool} {ob : Option Prop} (h : okP (guardOb g qs ob)) (hg : g = true) : okP ob ∧ ∀ q ∈ qs,q = true := by
  cases qs with
  | nil => cases ob with
    | none => exact ⟨trivial,fun q hq => by simp at hq⟩
    | some p => exact allT_inv (l := []) (h hg)
  | cons q l => exact allT_inv (l := q :: l) (h hg)

theorem condsOf_mem {s : St} : ∀ {l : List Operand} {x : Operand},x ∈ l → ∀ q,condOf s x = some q → q ∈ condsOf s l
  | y :: l,x,hx,q,hq => by
    rcases List.mem_cons.1 hx with rfl | hx
    · simp only [condsOf,hq];exact List.mem_cons_self
    · have := condsOf_mem hx q hq
      simp only [condsOf]
      split
      · exact List.mem_cons_of_mem _ this
      · exact this

/-- Whether a guarded operation is carried out. -/
def guardOf (want : Bool) : V → Option Bool
  | .d .bool b => some (if want then b else !b)
  | .when q (.d .bool b) => some (q && (if want then b else !b))
  | _ => none

/-- Operations that make nothing and write nothing. -/
def quietOp : Op → Bool
  | .move _ | .assign _ | .pick .. | .load .. | .nilCheck _ | .binOp .. | .unOp .. | .convert .. | .fieldAddr .. | .indexAddr .. | .slice .. | .extract .. | .build .. | .makeFunc .. => true
  | .call { callee := .builtin .len,.. } => true
  | .call { callee := .builtin .min,.. } => true
  | .call { callee := .builtin .max,.. } => true
  | _ => false

def setTmp (s : St) (dst : Option Nat) (v : V) (objs : List Obj) : Option St :=
  match dst with
  | none => some { s with objs }
  | some d => if d < s.nt then some { s with tmps := (d,v) :: s.tmps,objs } else none

/-- One operation: the obligation,the state behind it. -/
def step1 (τ : TyTab) (hx : Bool) (ops : List Oper) (o : Oper) (s : St) : Option (Option Prop × St) :=
  match o.guard with
  | none => match eff τ hx o.op s with
    | none => none
    | some out => (setTmp s o.dst out.v out.objs).map fun s' => (out.ob,s')
  | some (j,want) => match (ops[j]?).bind (·.dst) with
    | none => none
    | some gd => match guardOf want (s.get gd),quietOp o.op,eff τ hx o.op s.bare with
      | some g,true,some out => (setTmp s o.dst (.when g out.v) s.objs).map fun s' => (guardOb g (condsOf s o.op.operands.toList) out.ob,s')
      | _,_,_ => none

theorem upon_ran {o : Oper} {a : Act} {E E' : Env} {n : Next} {v : Value} {K : Act → World → Prop} {R : Exit → Act → World → Prop}
    (h : (execOp a.eval o).run P E.w = .ok n E'.w) (hn : n = .value v ∨ (n = .skip ∧ v = undef)) (hk : K (a.put o.dst v) E'.w) : o.wp P a E.w K R := by
  unfold Oper.wp
  rw [h]
  rcases hn with rfl | ⟨rfl,rfl⟩
  · exact hk
  · exact hk

theorem setTmp_inv {dst : Option Nat} {v : V} {objs : List Obj} {s' : St} (h : setTmp s dst v objs = some s') : s' = s.after dst v objs ∧ ∀ d,dst = some d → d < s.nt := by
  unfold setTmp at h
  split at h
  · cases h;exact ⟨rfl,fun d e => by cases e⟩
  · split at h
    · rename_i hlt;cases h;exact ⟨rfl,fun d e => by cases e;exact hlt⟩
    · cases h

theorem look_bare (t : Nat) : ∀ l : List (Nat × V),look t (l.map fun p => (p.1,p.2.bare)) = (look t l).bare
  | [] => rfl
  | (u,v) :: l => by
    rw [List.map_cons,look_cons,look_cons]
    split
    · rfl
    · exact look_bare t l

theorem bare_rep {s : St} {E : Env} {x : Operand} {c : Value} (r : Rep E (s.ev x) c) (h : ∀ q,condOf s x = some q → q = true) : Rep E (s.bare.ev x) c := by
  cases x with
  | tmp t =>
    show Rep E (look t (s.tmps.map _)) c
    rw [look_bare]
    have h' : ∀ q v,s.get t = .when q v → q = true := fun q v e => h q (by simp [condOf,e])
    change Rep E (s.get t) c at r
    change Rep E (s.get t).bare c
    generalize s.get t = v at r h'
    cases v with
    | when q v => cases r with | when h1 h2 => exact h1 (h' q v rfl)
    | _ => exact r
  | _ => exact r

theorem quiet_objs {hx : Bool} {op : Op} {out : Out} (hq : quietOp op = true) (h : eff τ hx op s = some out) : out.objs = s.objs := by
  cases op <;> simp only [quietOp] at hq <;> try (cases hq;done)
  case call c =>
    obtain ⟨callee,args,tys⟩ := c
    cases callee <;> try (cases hq;done)
    rename_i b
    cases b <;> try (cases hq;done)
    case len =>
      simp only [eff,effBuiltin] at h
      split at h <;> simp_all
      unfold effLen at h
      repeat' split at h
      all_goals first | (cases h;done) | (cases h;rfl)
    case min =>
      simp only [eff,effBuiltin] at h
      split at h <;> simp_all
      unfold effMinMax at h
      repeat' split at h
      all_goals first | (cases h;done) | (cases h;rfl)
    case max =>
      simp only [eff,effBuiltin] at h
      split at h <;> simp_all
      unfold effMinMax at h
      repeat' split at h
      all_goals first | (cases h;done) | (cases h;rfl)
  all_goals simp only [eff] at h
  case move => cases h;rfl
  case assign => cases h;rfl
  case pick =>
    unfold effPick at h
    repeat' split at h
    all_goals first | (cases h;done) | (cases h;rfl)
  case load =>
    unfold effLoad at h
    repeat' split at h
    all_goals first | (cases h;done) | (simp only [Option.map_eq_some_iff] at h;obtain ⟨_,_,rfl⟩ := h;rfl)
  case nilCheck =>
    repeat' split at h
    all_goals first | (cases h;done) | (cases h;rfl)
  case binOp =>
    unfold effBin at h
    repeat' split at h
    all_goals first | (cases h;done) | (cases h;rfl) | (simp only [Option.map_eq_some_iff] at h;obtain ⟨_,_,rfl⟩ := h;rfl) | skip
    all_goals (simp only [] at h;repeat' split at h)
    all_goals first | (cases h;done) | (cases h;rfl)
  case unOp =>
    unfold effUn at h
    repeat' split at h
    all_goals first | (cases h;done) | (cases h;rfl)
  case convert =>
    unfold effConvert at h
    repeat' split at h
    all_goals first | (cases h;done) | (cases h;rfl)
  case fieldAddr =>
    unfold effFieldAddr at h
    repeat' split at h
    all_goals first | (cases h;done) | (cases h;rfl)
  case indexAddr =>
    unfold effIndexAddr at h
    repeat' split at h
    all_goals first | (cases h;done) | (cases h;rfl)
  case slice t x lo hi mx =>
    cases mx with
    | some _ => cases h
    | none =>
      simp only at h
      unfold effSlice at h
      repeat' split at h
      all_goals first | (cases h;done) | (cases h;rfl)
  case extract =>
    repeat' split at h
    all_goals first | (cases h;done) | (simp only [Option.map_eq_some_iff] at h;obtain ⟨_,_,rfl⟩ := h;rfl)
  case build =>
    unfold effBuild at h
    repeat' split at h
    all_goals first | (cases h;done) | (simp only [Option.map_eq_some_iff] at h;obtain ⟨_,_,rfl⟩ := h;rfl)
  case makeFunc => cases h;rfl

theorem step1_ok (hτ : TabOk P τ) {hx : Bool} {ops : Array Oper} {o : Oper} {ob : Option Prop} {s' : St} (h : step1 τ hx ops.toList o s = some (ob, s')) (ho : okP ob) {i : Nat} {l : List Nat} (hi : ops[i]? = some o)
    (hk : AOps P cx ops Q l s') : AOps P cx ops Q (i :: l) s := by
  intro a w r
  obtain ⟨E,rfl,h2,h3,h4,h5,h6⟩ := id r
  unfold step1 at h
  split at h
  · rename_i hg
    split at h
    · cases h
    · rename_i out hout
      have hw : Region.wanted o (yielded ops a.tmps) = true := by simp [Region.wanted,hg]
      simp only [Option.map_eq_some_iff,Prod.mk.injEq] at h
      obtain ⟨s1,hs,rfl,rfl⟩ := h
      obtain ⟨rfl,hd⟩ := setTmp_inv hs
      obtain ⟨E',n,v,k1,k2,k3,k4,k5⟩ := eff_ok hτ hout ho h2 (ρ := a.eval) (fun x _ => Rel.ev (w := E.w) h6 x) (fun v => rfl)
      simp only [wpOps,hi,hw,if_true]
      exact .inl (upon_ran k1 k2 (hk _ _ (Rel.after rfl h3 h4 h5 h6 k3 k4 k5 hd)))
  · rename_i j want hg
    split at h
    · cases h
    · rename_i gd hgd
      split at h
      · rename_i g out hgv hqo hout
        simp only [Option.map_eq_some_iff,Prod.mk.injEq] at h
        obtain ⟨s1,hs,rfl,rfl⟩ := h
        obtain ⟨rfl,hd⟩ := setTmp_inv hs
        have hgd' : (ops[j]?).bind (·.dst) = some gd := by simpa using hgd
        -- whether it is carried out
        have hwant : Region.wanted o (yielded ops a.tmps) = g := by
          have hy : yielded ops a.tmps j = match a.tmps[gd]? with | some (.bool b) => some b | _ => none := by
            unfold yielded;rw [hgd'];rfl
          have rg := h6 gd
          simp only [Region.wanted,hg,hy]
          have hget : a.tmps.getD gd undef = (a.tmps[gd]?).getD undef := by rw [Array.getD_eq_getD_getElem?]
          rw [hget] at rg
          unfold guardOf at hgv
          split at hgv
          · rename_i b e
            cases hgv
            rw [e] at rg
            have := rg.bool_inv
            cases hq : a.tmps[gd]? with
            | none => rw [hq] at this;cases this
            | some c => rw [hq] at this;simp at this;subst this;cases b <;> cases want <;> rfl
          · rename_i q b e
            cases hgv
            rw [e] at rg
            cases rg with
            | when k1 k2 =>
              cases q with
              | true =>
                have := (k1 rfl).bool_inv
                cases hq : a.tmps[gd]? with
                | none => rw [hq] at this;cases this
                | some c => rw [hq] at this;simp at this;subst this;cases b <;> cases want <;> rfl
              | false =>
                have := k2 rfl
                cases hq : a.tmps[gd]? with
                | none => rfl
                | some c => rw [hq] at this;simp at this;subst this;rfl
          · cases hgv
        cases g with
        | true =>
          obtain ⟨k0,kc⟩ := guardOb_inv ho rfl
          obtain ⟨E',n,v,k1,k2,k3,k4,k5⟩ := eff_ok (s := s.bare) hτ hout k0 h2 (ρ := a.eval) (fun x hx => bare_rep (Rel.ev (w := E.w) h6 x) (fun q hq => kc q (condsOf_mem (Array.mem_toList_iff.2 hx) q hq))) (fun v => rfl)
          have hobj := quiet_objs hqo hout
          rw [show s.bare.objs = s.objs from rfl] at hobj k4
          rw [hobj] at k3 k4
          simp only [wpOps,hi,hwant,if_true]
          exact .inl (upon_ran k1 k2 (hk _ _ (Rel.after rfl h3 h4 h5 h6 k3 k4 (.when (fun _ => k5) (fun e => by cases e)) hd)))
        | false =>
          simp only [wpOps,hi,hwant,Bool.false_eq_true,if_false]
          exact hk _ _ (Rel.after (c := undef) rfl h3 h4 h5 h6 h2 (.refl _ _) (.when (fun e => by cases e) (fun _ => rfl)) hd)
      · cases h

/-- Several operations,one behind the other;'hx i': exact arithmetic at number i. -/
def runOps (τ : TyTab) (hx : Nat → Bool) (ops : List Oper) : List Nat → St → Option (List Prop × St)
  | [],s => some ([],s)
  | i :: l,s => match ops[i]? with
    | none => none
    | some o => match step1 τ (hx i) ops o s with
      | none => none
      | some (ob,s') => match runOps τ hx ops l s' with
        | none => none
        | some (obs,s'') => some (match ob with | none => obs | some p => p :: obs,s'')

theorem runOps_ok (hτ : TabOk P τ) {hx : Nat → Bool} {ops : Array Oper} : ∀ {l l' : List Nat} {s s' : St} {obs : List Prop},runOps τ hx ops.toList l s = some (obs,s') → AllP obs → AOps P cx ops Q l' s' → AOps P cx ops Q (l ++ l') s
  | [],l',s,s',obs,h,_,hk => by simp only [runOps] at h;cases h;exact hk
  | i :: l,l',s,s',obs,h,ho,hk => by
    simp only [runOps] at h
    split at h
    · cases h
    · rename_i o hi
      split at h
      · cases h
      · rename_i ob1 s1 h1
        split at h
        · cases h
        · rename_i ob2 s2 h2
          cases h
          cases ob1 with
          | none => exact step1_ok hτ h1 trivial (by simpa using hi) (runOps_ok hτ h2 ho hk)
          | some p => exact step1_ok hτ h1 (AllP.head ho) (by simpa using hi) (runOps_ok hτ h2 (AllP.tail ho) hk)

/-- A whole region without a call. -/
theorem awp_run (hτ : TabOk P τ) {id : Nat} {ops : Array Oper} {hx : Nat → Bool} {s' s'' : St} {ob : List Prop} (h : runOps τ hx ops.toList (List.range ops.size) s = some (ob, s')) (ho : AllP ob) (hw : Wk cx s' s'') (hk : Q .normal s'') :
    AWp P cx (.region id ops false) Q s :=
  awp_region (by have := runOps_ok (cx := cx) (Q := Q) (l' := []) hτ h ho (aops_wk hw (aops_nil hk));simpa using this)

/-! ### Saying less -/
theorem Wk.refl (s : St) : Wk cx s s := fun _ _ h => h
theorem Wk.trans {s s' s'' : St} (h : Wk cx s s') (k : Wk cx s' s'') : Wk cx s s'' := fun a w r => k a w (h a w r)

/-- Only these slots are remembered. -/
def St.keep (l : List Nat) (s : St) : St := { s with tmps := l.map fun t => (t,s.get t) }

theorem look_map (f : Nat → V) (t : Nat) : ∀ l : List Nat,look t (l.map fun t => (t,f t)) = f t ∨ look t (l.map fun t => (t,f t)) = .any
  | [] => .inr rfl
  | u :: l => by
    rw [List.map_cons,look_cons]
    split
    · rename_i e;subst e;exact .inl rfl
    · exact look_map f t l

theorem wk_keep (l : List Nat) (s : St) : Wk cx s (s.keep l) := by
  rintro a w ⟨E,h1,h2,h3,h4,h5,h6⟩
  refine ⟨E,h1,h2,h3,h4,h5,fun t => ?_⟩
  rcases look_map s.get t l with h | h
  · rw [show (s.keep l).get t = s.get t from h];exact h6 t
  · rw [show (s.keep l).get t = .any from h];exact .any _

end rules
end Go.Proofs.Ytlncingakpelbaa
