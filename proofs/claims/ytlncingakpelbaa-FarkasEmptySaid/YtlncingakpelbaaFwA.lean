/- Part of a proof that a law of the program holds for every input: how abstract states follow the program (part A). No conditions. -/
import Derived.Orders
import Derived.KernelRfl
import Derived.Below
import Derived.Laws.AppendOwn
namespace Go.Proofs.Ytlncingakpelbaa
open Go

/-! ## Codes of data types, abstract values -/
inductive Ty where
  | int (k : IntKind) | bool | str | sl (t : Ty) | pair (a b : Ty) | unit
  deriving DecidableEq

@[reducible] def Ty.den : Ty → Type
  | .int _ => Int
  | .bool => Bool
  | .str => ByteArray
  | .sl t => List t.den
  | .pair a b => a.den × b.den
  | .unit => Unit

def Ty.size : Ty → Nat
  | .int _ | .bool | .str | .sl _ => 1
  | .pair a b => a.size + b.size
  | .unit => 0

def Ty.dflt : (t : Ty) → t.den
  | .int _ => (0 : Int)
  | .bool => false
  | .str => ByteArray.empty
  | .sl _ => []
  | .pair a b => (a.dflt, b.dflt)
  | .unit => ()

inductive V where
  | any
  | d (t : Ty) (x : t.den)
  | nilp | nilf | nils | nilm
  | fn (f : Fn) (fst caps : List V)
  | agg (cs : List V)
  | tup (vs : List V)
  | er (cs : List V)
  | ref (l ver off : Nat)
  | rref (l ver i off : Nat)
  | osl (l ver : Nat)
  | osp (l ver n : Nat)
  | map (l : Nat)
  | when (b : Bool) (v : V)
  | opt (b : Bool) (v : V)

/-- The cells of a datum, a leaf a cell. -/
def flat : (t : Ty) → t.den → List V
  | .int k, x => [.d (.int k) x]
  | .bool, x => [.d .bool x]
  | .str, x => [.d .str x]
  | .sl t, x => [.d (.sl t) x]
  | .pair a b, x => flat a x.1 ++ flat b x.2
  | .unit, _ => []

theorem flat_length : ∀ (t : Ty) (x : t.den), (flat t x).length = t.size
  | .int _, _ | .bool, _ | .str, _ | .sl _, _ | .unit, _ => rfl
  | .pair a b, x => by simp only [flat, List.length_append, flat_length a, flat_length b, Ty.size]

/-- How a datum lies in memory: the cells that hold it; what they point at lies in the stable blocks S. -/
def Cells (w : World) (S : Nat → Prop) : (t : Ty) → t.den → List Value → Prop
  | .int k, n, cs => cs = [.int k n]
  | .bool, b, cs => cs = [.bool b]
  | .str, s, cs => cs = [.string s]
  | .sl t, l, cs => ∃ a c, cs = [.slice a (List.length (α := t.den) l) c] ∧ (List.length (α := t.den) l ≤ c ∧ c ≤ maxLen) ∧ (l ≠ ([] : List t.den) → ∃ b off, a = some ⟨b, off, none⟩ ∧ S b ∧
      ∀ i (x : t.den), (l : List t.den)[i]? = some x → ∃ cs', Cells w S t x cs' ∧ ∀ j u, cs'[j]? = some u → w.cell? ⟨b, off + i * t.size + j, none⟩ = some u)
  | .pair a b, x, cs => ∃ c1 c2, cs = c1 ++ c2 ∧ Cells w S a x.1 c1 ∧ Cells w S b x.2 c2
  | .unit, _, cs => cs = []

theorem Cells.length {w : World} {S : Nat → Prop} : ∀ {t : Ty} {x : t.den} {cs : List Value}, Cells w S t x cs → cs.length = t.size
  | .int _, _, _, h => by rw [show _ = _ from h]; rfl
  | .bool, _, _, h => by rw [show _ = _ from h]; rfl
  | .str, _, _, h => by rw [show _ = _ from h]; rfl
  | .sl _, _, _, ⟨_, _, h, _⟩ => by rw [h]; rfl
  | .pair a b, _, _, ⟨c1, c2, h, h1, h2⟩ => by rw [h, List.length_append, h1.length, h2.length]; rfl
  | .unit, _, _, h => by rw [show _ = _ from h]; rfl

theorem Cells.one {w : World} {S : Nat → Prop} : ∀ {t : Ty} {x : t.den} {cs : List Value}, Cells w S t x cs → ∀ u ∈ cs, u.oneCell' = true
  | .int _, _, _, h => by rw [show _ = _ from h]; simp [Value.oneCell']
  | .bool, _, _, h => by rw [show _ = _ from h]; simp [Value.oneCell']
  | .str, _, _, h => by rw [show _ = _ from h]; simp [Value.oneCell']
  | .sl _, _, _, ⟨_, _, h, _⟩ => by rw [h]; simp [Value.oneCell']
  | .pair a b, _, _, ⟨c1, c2, h, h1, h2⟩ => by
    rw [h]; intro u hu
    rcases List.mem_append.1 hu with hu | hu
    · exact h1.one u hu
    · exact h2.one u hu
  | .unit, _, _, h => by rw [show _ = _ from h]; simp

theorem cell_of_heap {w w' : World} {b : Nat} (h : w'.heap[b]? = w.heap[b]?) (o : Nat) : w'.cell? ⟨b, o, none⟩ = w.cell? ⟨b, o, none⟩ := by
  simp only [World.cell?, h]

theorem Cells.mono {w w' : World} {S S' : Nat → Prop} (hS : ∀ b, S b → S' b ∧ w'.heap[b]? = w.heap[b]?) :
    ∀ {t : Ty} {x : t.den} {cs : List Value}, Cells w S t x cs → Cells w' S' t x cs
  | .int _, _, _, h => h
  | .bool, _, _, h => h
  | .str, _, _, h => h
  | .sl t, l, _, ⟨a, c, h, hc, hl⟩ => ⟨a, c, h, hc, fun hne => by
      obtain ⟨b, off, ha, hb, hx⟩ := hl hne
      refine ⟨b, off, ha, (hS b hb).1, fun i x hi => ?_⟩
      obtain ⟨cs', h1, h2⟩ := hx i x hi
      exact ⟨cs', h1.mono hS, fun j u hj => (cell_of_heap (hS b hb).2 _).trans (h2 j u hj)⟩⟩
  | .pair _ _, _, _, ⟨c1, c2, h, h1, h2⟩ => ⟨c1, c2, h, h1.mono hS, h2.mono hS⟩
  | .unit, _, _, h => h

/-! ## Own objects and the environment -/
structure Loc where
  b : Nat
  v : Value
  esz : Nat

structure Env where
  w : World
  S : Nat → Prop
  len : Nat
  loc : Nat → Loc
  ver : Nat → Option Nat

/-- The slice value of the first elements of an own row. -/
def partSlice (v : Value) (n : Nat) : Value :=
  match v with
  | .slice a _ cap => .slice a n cap
  | v => v

inductive Rep (E : Env) : V → Value → Prop where
  | any (v) : Rep E .any v
  | d {t x v} : Cells E.w E.S t x [v] → Rep E (.d t x) v
  | nilp : Rep E .nilp (.pointer none)
  | nilf : Rep E .nilf .nilFunc
  | nils (a) : Rep E .nils (.slice a 0 0)
  | nilm : Rep E .nilm (.map none)
  | fn {f fs cs} {a b : Array Value} : a.size = fs.length → b.size = cs.length → (∀ j, j < fs.length → Rep E (fs.getD j .any) (a.getD j undef)) →
      (∀ j, j < cs.length → Rep E (cs.getD j .any) (b.getD j undef)) → Rep E (.fn f fs cs) (.func f a b)
  | agg {cs} {a : Array Value} : a.size = cs.length → (∀ j, j < cs.length → Rep E (cs.getD j .any) (a.getD j undef)) → Rep E (.agg cs) (.agg a)
  | tup {cs} {a : Array Value} : a.size = cs.length → (∀ j, j < cs.length → Rep E (cs.getD j .any) (a.getD j undef)) → Rep E (.tup cs) (.tuple a)
  | er {cs} {b off} (c : Nat → Value) : E.S b → (∀ j, j < cs.length → E.w.cell? ⟨b, off + j, none⟩ = some (c j)) → (∀ j, j < cs.length → Rep E (cs.getD j .any) (c j)) →
      Rep E (.er cs) (.pointer (some ⟨b, off, none⟩))
  | ref {l ver off v} : v.oneCell' = true → l < E.len → (∀ u, E.ver l = some u → ver ≤ u ∧ (ver = u → v = .pointer (some ⟨(E.loc l).b, off, none⟩))) → Rep E (.ref l ver off) v
  | rref {l ver i off v} : v.oneCell' = true → l < E.len → (∀ u, E.ver l = some u → ver ≤ u ∧ (ver = u → v = .pointer (some ⟨(E.loc l).b, i * (E.loc l).esz + off, none⟩))) → Rep E (.rref l ver i off) v
  | osl {l ver v} : v.oneCell' = true → l < E.len → (∀ u, E.ver l = some u → ver ≤ u ∧ (ver = u → v = (E.loc l).v)) → Rep E (.osl l ver) v
  | osp {l ver n v} : v.oneCell' = true → l < E.len → (∀ u, E.ver l = some u → ver ≤ u ∧ (ver = u → v = partSlice (E.loc l).v n)) → Rep E (.osp l ver n) v
  | map {l v} : v.oneCell' = true → l < E.len → (∀ u, E.ver l = some u → (0 = u → v = .map (some (E.loc l).b))) → Rep E (.map l) v
  | when {b v x} : (b = true → Rep E v x) → (b = false → x = undef) → Rep E (.when b v) x
  | opt {b v x} : (b = true → Rep E v x) → (b = false → x = .pointer none) → Rep E (.opt b v) x

/-- E' comes behind E: what was stable is stable and unchanged; an own object's version does not go down, and its place stands while its version stands. -/
structure Ext (E E' : Env) : Prop where
  S : ∀ b, E.S b → E'.S b ∧ E'.w.heap[b]? = E.w.heap[b]?
  len : E.len ≤ E'.len
  ver : ∀ l, l < E.len → ∀ u', E'.ver l = some u' → ∃ u, E.ver l = some u ∧ u ≤ u' ∧ (u = u' → E'.loc l = E.loc l)

theorem Ext.refl (E : Env) : Ext E E := ⟨fun _ h => ⟨h, rfl⟩, Nat.le_refl _, fun _ _ u h => ⟨u, h, Nat.le_refl _, fun _ => rfl⟩⟩
theorem Ext.trans {A B C : Env} (h : Ext A B) (k : Ext B C) : Ext A C :=
  ⟨fun b hb => ⟨(k.S b (h.S b hb).1).1, (k.S b (h.S b hb).1).2.trans (h.S b hb).2⟩, Nat.le_trans h.len k.len, fun l hl u' hu' => by
    obtain ⟨u, hu, h1, h2⟩ := k.ver l (Nat.lt_of_lt_of_le hl h.len) u' hu'
    obtain ⟨u0, hu0, h3, h4⟩ := h.ver l hl u hu
    refine ⟨u0, hu0, Nat.le_trans h3 h1, fun e => ?_⟩
    have e1 : u = u' := by omega
    have e2 : u0 = u := by omega
    rw [h2 e1, h4 e2]⟩

theorem Rep.mono {E E' : Env} (h : Ext E E') {v : V} {c : Value} (r : Rep E v c) : Rep E' v c := by
  induction r with
  | any v => exact .any v
  | d hc => exact .d (hc.mono h.S)
  | nilp => exact .nilp
  | nilf => exact .nilf
  | nils a => exact .nils a
  | nilm => exact .nilm
  | fn h1 h2 _ _ i1 i2 => exact .fn h1 h2 i1 i2
  | agg h1 _ i1 => exact .agg h1 i1
  | tup h1 _ i1 => exact .tup h1 i1
  | er c hb hc _ i => exact .er c (h.S _ hb).1 (fun j hj => (cell_of_heap (h.S _ hb).2 _).trans (hc j hj)) i
  | ref ho hl hv => exact .ref ho (Nat.lt_of_lt_of_le hl h.len) (fun u' hu' => by
      obtain ⟨u, hu, h1, h2⟩ := h.ver _ hl u' hu'
      obtain ⟨h3, h4⟩ := hv u hu
      exact ⟨Nat.le_trans h3 h1, fun e => by have e1 : u = u' := by omega
                                             rw [h2 e1]; exact h4 (by omega)⟩)
  | rref ho hl hv => exact .rref ho (Nat.lt_of_lt_of_le hl h.len) (fun u' hu' => by
      obtain ⟨u, hu, h1, h2⟩ := h.ver _ hl u' hu'
      obtain ⟨h3, h4⟩ := hv u hu
      exact ⟨Nat.le_trans h3 h1, fun e => by have e1 : u = u' := by omega
                                             rw [h2 e1]; exact h4 (by omega)⟩)
  | osl ho hl hv => exact .osl ho (Nat.lt_of_lt_of_le hl h.len) (fun u' hu' => by
      obtain ⟨u, hu, h1, h2⟩ := h.ver _ hl u' hu'
      obtain ⟨h3, h4⟩ := hv u hu
      exact ⟨Nat.le_trans h3 h1, fun e => by have e1 : u = u' := by omega
                                             rw [h2 e1]; exact h4 (by omega)⟩)
  | map ho hl hv => exact .map ho (Nat.lt_of_lt_of_le hl h.len) (fun u' hu' e => by
      obtain ⟨u, hu, h1, h2⟩ := h.ver _ hl u' hu'
      have e1 : u = u' := by omega
      rw [h2 e1]; exact hv u hu (by omega))
  | when _ h2 i1 => exact .when i1 h2
  | opt _ h2 i1 => exact .opt i1 h2
  | osp ho hl hv => exact .osp ho (Nat.lt_of_lt_of_le hl h.len) (fun u' hu' => by
      obtain ⟨u, hu, h1, h2⟩ := h.ver _ hl u' hu'
      obtain ⟨h3, h4⟩ := hv u hu
      exact ⟨Nat.le_trans h3 h1, fun e => by have e1 : u = u' := by omega
                                             rw [h2 e1]; exact h4 (by omega)⟩)

inductive Obj where
  | dead
  | box (cs : List V)
  | row (t : Ty) (l : List t.den) (ver : Nat)
  | smap (t : Ty) (m : ByteArray → Option t.den)
  | imap (t : Ty) (m : Int → Option t.den)

/-- The cells of a list of data, one behind the other. -/
def CellsL (w : World) (S : Nat → Prop) (t : Ty) : List t.den → List Value → Prop
  | [], cs => cs = []
  | x :: l, cs => ∃ c1 c2, cs = c1 ++ c2 ∧ Cells w S t x c1 ∧ CellsL w S t l c2

theorem CellsL.mono {w w' : World} {S S' : Nat → Prop} {t : Ty} (hS : ∀ b, S b → S' b ∧ w'.heap[b]? = w.heap[b]?) :
    ∀ {l : List t.den} {cs : List Value}, CellsL w S t l cs → CellsL w' S' t l cs
  | [], _, h => h
  | _ :: _, _, ⟨c1, c2, h, h1, h2⟩ => ⟨c1, c2, h, h1.mono hS, h2.mono hS⟩

theorem CellsL.length {w : World} {S : Nat → Prop} {t : Ty} : ∀ {l : List t.den} {cs : List Value}, CellsL w S t l cs → cs.length = l.length * t.size
  | [], _, h => by rw [show _ = _ from h]; simp
  | _ :: l, _, ⟨c1, c2, h, h1, h2⟩ => by rw [h, List.length_append, h1.length, h2.length, List.length_cons, Nat.succ_mul]; omega

theorem CellsL.append {w : World} {S : Nat → Prop} {t : Ty} : ∀ {l l' : List t.den} {cs cs' : List Value}, CellsL w S t l cs → CellsL w S t l' cs' → CellsL w S t (l ++ l') (cs ++ cs')
  | [], _, _, _, h, h' => by rw [show _ = _ from h]; simpa using h'
  | _ :: _, _, _, _, ⟨c1, c2, h, h1, h2⟩, h' => ⟨c1, c2 ++ _, by rw [h, List.append_assoc], h1, h2.append h'⟩

theorem CellsL.one {w : World} {S : Nat → Prop} {t : Ty} : ∀ {l : List t.den} {cs : List Value}, CellsL w S t l cs → ∀ u ∈ cs, u.oneCell' = true
  | [], _, h => by rw [show _ = _ from h]; simp
  | _ :: _, _, ⟨c1, c2, h, h1, h2⟩ => by
    rw [h]; intro u hu
    rcases List.mem_append.1 hu with hu | hu
    · exact h1.one u hu
    · exact h2.one u hu

theorem CellsL.get {w : World} {S : Nat → Prop} {t : Ty} : ∀ {l : List t.den} {cs : List Value}, CellsL w S t l cs → ∀ (i : Nat) (x : t.den), l[i]? = some x →
    ∃ c, Cells w S t x c ∧ ∀ j u, c[j]? = some u → cs[i * t.size + j]? = some u
  | [], _, _, i, x, h => by simp at h
  | y :: l, cs, ⟨c1, c2, h, h1, h2⟩, 0, x, hx => by
    simp at hx; subst hx
    refine ⟨c1, h1, fun j u hj => ?_⟩
    rw [h, Nat.zero_mul, Nat.zero_add, List.getElem?_append_left (by have := (List.getElem?_eq_some_iff.1 hj).1; exact this)]
    exact hj
  | y :: l, cs, ⟨c1, c2, h, h1, h2⟩, i + 1, x, hx => by
    obtain ⟨c, hc, hj⟩ := h2.get i x (by simpa using hx)
    refine ⟨c, hc, fun j u hu => ?_⟩
    have h1l := h1.length
    rw [h, List.getElem?_append_right (by rw [h1l, Nat.succ_mul]; omega)]
    rw [show (i + 1) * t.size + j - c1.length = i * t.size + j from by rw [h1l, Nat.succ_mul]; omega]
    exact hj j u hu

theorem CellsL.of_get {w : World} {S : Nat → Prop} {t : Ty} : ∀ {l : List t.den} {cs : List Value}, cs.length = l.length * t.size →
    (∀ (i : Nat) (x : t.den), l[i]? = some x → ∃ c, Cells w S t x c ∧ ∀ j u, c[j]? = some u → cs[i * t.size + j]? = some u) → CellsL w S t l cs
  | [], cs, h, _ => List.eq_nil_of_length_eq_zero (by simpa using h)
  | x :: l, cs, h, hg => by
    obtain ⟨c, hc, hj⟩ := hg 0 x rfl
    have hcl := hc.length
    have hle : t.size ≤ cs.length := by rw [h, List.length_cons, Nat.succ_mul]; omega
    have e : cs.take t.size = c := by
      apply List.ext_getElem?
      intro j
      rw [List.getElem?_take]
      split
      · rename_i hlt
        have := hj j c[j] (List.getElem?_eq_getElem (by omega))
        rw [List.getElem?_eq_getElem (by omega : j < c.length)]
        simpa using this
      · rw [List.getElem?_eq_none (by omega)]
    refine ⟨c, cs.drop t.size, by rw [← e, List.take_append_drop], hc, CellsL.of_get (by rw [List.length_drop, h, List.length_cons, Nat.succ_mul]; omega) (fun i y hy => ?_)⟩
    obtain ⟨c', hc', hj'⟩ := hg (i + 1) y (by simpa using hy)
    refine ⟨c', hc', fun j u hu => ?_⟩
    rw [List.getElem?_drop, show t.size + (i * t.size + j) = (i + 1) * t.size + j from by rw [Nat.succ_mul]; omega]
    exact hj' j u hu

theorem splice_get {α : Type} {A vs : List α} {o : Nat} (h : o + vs.length ≤ A.length) (k : Nat) :
    (A.take o ++ vs ++ A.drop (o + vs.length))[k]? = if k < o then A[k]? else if k < o + vs.length then vs[k - o]? else A[k]? := by
  have hto : (A.take o).length = o := by simp; omega
  split
  · rw [List.append_assoc, List.getElem?_append_left (by omega), List.getElem?_take, if_pos ‹_›]
  · split
    · rw [List.getElem?_append_left (by simp; omega), List.getElem?_append_right (by omega), hto]
    · rw [List.getElem?_append_right (by simp; omega), List.getElem?_drop]
      congr 1
      simp; omega

/-- A string map's entries. -/
def smapHas (w : World) (S : Nat → Prop) (t : Ty) (m : ByteArray → Option t.den) (es : Array MapEntry) : Prop :=
  (∀ e ∈ es.toList, ∃ k x, e.key = .string k ∧ m k = some x ∧ Cells w S t x [e.val]) ∧
  (∀ k x, m k = some x → ∃ e ∈ es.toList, e.key = .string k)
def imapHas (w : World) (S : Nat → Prop) (t : Ty) (m : Int → Option t.den) (es : Array MapEntry) : Prop :=
  (∀ e ∈ es.toList, ∃ k x, e.key = .int .i64 k ∧ m k = some x ∧ Cells w S t x [e.val]) ∧
  (∀ k x, m k = some x → ∃ e ∈ es.toList, e.key = .int .i64 k)

/-- How an own object lies in memory. -/
def ObjAt (E : Env) (l : Nat) : Obj → Prop
  | .dead => E.ver l = none
  | .box cs => E.ver l = some 0 ∧ ∃ vals t, E.w.heap[(E.loc l).b]? = some (.cells vals t (0, 0)) ∧ vals.size = cs.length ∧
      ∀ j, j < cs.length → Rep E (cs.getD j .any) (vals.getD j undef)
  | .row t xs ver => E.ver l = some ver ∧ (E.loc l).esz = t.size ∧ 0 < t.size ∧ ∃ e cs, CellsL E.w E.S t xs cs ∧
      ((∃ a, (E.loc l).v = .slice a 0 0 ∧ xs = []) ∨
       ∃ cap cur, (E.loc l).v = .slice (some ⟨(E.loc l).b, 0, none⟩) xs.length cap ∧ E.w.heap[(E.loc l).b]? = some (.cells cur e (0, 0)) ∧ xs.length ≤ cap ∧ 0 < cap ∧ cap ≤ maxLen ∧
         cur.size = cap * t.size ∧ cur.toList.take (xs.length * t.size) = cs)
  | .smap t m => E.ver l = some 0 ∧ ∃ es clock, E.w.heap[(E.loc l).b]? = some (.map es clock) ∧ smapHas E.w E.S t m es
  | .imap t m => E.ver l = some 0 ∧ ∃ es clock, E.w.heap[(E.loc l).b]? = some (.map es clock) ∧ imapHas E.w E.S t m es

def Loc.virtual (l : Loc) : Prop := ∃ a, l.v = .slice a 0 0

/-- The object has a block of its own. -/
def Obj.has (o : Obj) (l : Loc) : Prop :=
  match o with
  | .dead => False
  | .row .. => ¬ l.virtual
  | _ => True

def ownB (E : Env) (objs : List Obj) (b : Nat) : Prop := ∃ l o, objs[l]? = some o ∧ o.has (E.loc l) ∧ (E.loc l).b = b

structure Good (E : Env) (objs : List Obj) : Prop where
  len : objs.length = E.len
  at_ : ∀ l o, objs[l]? = some o → ObjAt E l o
  ns : ∀ b, ownB E objs b → ¬ E.S b
  sl : ∀ b, E.S b → b < E.w.heap.size
  inj : ∀ l l' o o', objs[l]? = some o → objs[l']? = some o' → o.has (E.loc l) → o'.has (E.loc l') → (E.loc l).b = (E.loc l').b → l = l'

/-- What has become of the world between two points of one run: 'imp' are the objects that could be written. -/
structure Step (E0 : Env) (imp : List Obj) (E : Env) (objs : List Obj) : Prop where
  ext : Ext E0 E
  os : E.w.os = E0.w.os
  tape : E.w.tape = E0.w.tape
  output : E.w.output = E0.w.output
  size : E0.w.heap.size ≤ E.w.heap.size
  frame : ∀ b, b < E0.w.heap.size → ¬ ownB E0 imp b → E.w.heap[b]? = E0.w.heap[b]?
  own : ∀ b, ownB E objs b → E0.w.heap.size ≤ b ∨ ownB E0 imp b
  st : ∀ b, E.S b → E0.S b ∨ E0.w.heap.size ≤ b ∨ ownB E0 imp b

theorem Step.refl (E : Env) (objs : List Obj) : Step E objs E objs :=
  ⟨.refl _, rfl, rfl, rfl, Nat.le_refl _, fun _ _ _ => rfl, fun _ h => .inr h, fun _ h => .inl h⟩

theorem Step.trans {E0 E1 E2 : Env} {o0 o1 o2 : List Obj} (h : Step E0 o0 E1 o1) (k : Step E1 o1 E2 o2) : Step E0 o0 E2 o2 :=
  ⟨h.ext.trans k.ext, k.os.trans h.os, k.tape.trans h.tape, k.output.trans h.output, Nat.le_trans h.size k.size,
    fun b hb hn => (k.frame b (Nat.lt_of_lt_of_le hb h.size) (fun ho => (h.own b ho).elim (fun h' => by omega) hn)).trans (h.frame b hb hn),
    fun b hb => (k.own b hb).elim (fun h' => .inl (Nat.le_trans h.size h')) (h.own b),
    fun b hb => (k.st b hb).elim (h.st b) (fun h' => h'.elim (fun h' => .inr (.inl (Nat.le_trans h.size h'))) (fun h' => .inr (h.own b h')))⟩

theorem ObjAt.block_lt {E : Env} {l : Nat} {o : Obj} (h : ObjAt E l o) (hh : o.has (E.loc l)) : (E.loc l).b < E.w.heap.size := by
  cases o with
  | dead => exact hh.elim
  | box cs => obtain ⟨_, vals, t, hb, _⟩ := h; exact (Array.getElem?_eq_some_iff.1 hb).1
  | row t xs ver =>
    obtain ⟨_, _, _, e, cs, _, h | ⟨cap, cur, _, hb, _⟩⟩ := h
    · exact absurd ⟨_, h.choose_spec.1⟩ hh
    · exact (Array.getElem?_eq_some_iff.1 hb).1
  | smap t m => obtain ⟨_, es, c, hb, _⟩ := h; exact (Array.getElem?_eq_some_iff.1 hb).1
  | imap t m => obtain ⟨_, es, c, hb, _⟩ := h; exact (Array.getElem?_eq_some_iff.1 hb).1

theorem Good.own_lt {E : Env} {objs : List Obj} (h : Good E objs) {b : Nat} (hb : ownB E objs b) : b < E.w.heap.size := by
  obtain ⟨l, o, ho, hh, rfl⟩ := hb
  exact (h.at_ l o ho).block_lt hh

/-- An object that nobody touched stands as it stood. -/
theorem ObjAt.keep {E E' : Env} {l : Nat} {o : Obj} (h : ObjAt E l o) (hx : Ext E E') (hv : E'.ver l = E.ver l) (hl : E'.loc l = E.loc l)
    (hb : o.has (E.loc l) → E'.w.heap[(E.loc l).b]? = E.w.heap[(E.loc l).b]?) : ObjAt E' l o := by
  cases o with
  | dead => exact hv.trans h
  | box cs =>
    obtain ⟨h1, vals, t, h2, h3, h4⟩ := h
    exact ⟨hv.trans h1, vals, t, by rw [hl, hb trivial]; exact h2, h3, fun j hj => (h4 j hj).mono hx⟩
  | row t xs ver =>
    obtain ⟨h1, h2, h3, e, cs, h4, h5⟩ := h
    refine ⟨hv.trans h1, by rw [hl]; exact h2, h3, e, cs, h4.mono hx.S, ?_⟩
    rw [hl]
    rcases h5 with h5 | ⟨cap, cur, h5, h6, h7⟩
    · exact .inl h5
    · refine .inr ⟨cap, cur, h5, ?_, h7⟩
      rw [hb ?_]; exact h6
      rintro ⟨a, ha⟩
      rw [h5] at ha
      injection ha with _ _ h8
      have := h7.2.1
      omega
  | smap t m =>
    obtain ⟨h1, es, c, h2, h3, h4⟩ := h
    refine ⟨hv.trans h1, es, c, by rw [hl, hb trivial]; exact h2, fun e he => ?_, h4⟩
    obtain ⟨k, x, h5, h6, h7⟩ := h3 e he
    exact ⟨k, x, h5, h6, h7.mono hx.S⟩
  | imap t m =>
    obtain ⟨h1, es, c, h2, h3, h4⟩ := h
    refine ⟨hv.trans h1, es, c, by rw [hl, hb trivial]; exact h2, fun e he => ?_, h4⟩
    obtain ⟨k, x, h5, h6, h7⟩ := h3 e he
    exact ⟨k, x, h5, h6, h7.mono hx.S⟩

end Go.Proofs.Ytlncingakpelbaa
