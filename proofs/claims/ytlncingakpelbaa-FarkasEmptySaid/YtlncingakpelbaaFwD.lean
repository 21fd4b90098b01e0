/- Part of a proof that a law of the program holds for every input: how abstract states follow the program (part D). No conditions. -/
import Derived.Test.YtlncingakpelbaaFwC
namespace Go.Proofs.Ytlncingakpelbaa
open Go
set_option linter.unusedVariables false

/-! ## Moves of the environment -/
def upd {α : Type} (f : Nat → α) (l : Nat) (x : α) : Nat → α := fun j => if j = l then x else f j
theorem upd_same {α : Type} (f : Nat → α) (l : Nat) (x : α) : upd f l x l = x := if_pos rfl
theorem upd_ne {α : Type} (f : Nat → α) {l j : Nat} (x : α) (h : j ≠ l) : upd f l x j = f j := if_neg h

/-- A new own object. -/
def Env.push (E : Env) (w : World) (L : Loc) : Env := ⟨w, E.S, E.len + 1, upd E.loc E.len L, upd E.ver E.len (some 0)⟩

/-- The object l has turned: a new version, a new place. -/
def Env.put (E : Env) (w : World) (l : Nat) (L : Loc) (u : Nat) : Env := ⟨w, E.S, E.len, upd E.loc l L, upd E.ver l (some u)⟩

theorem same_of_grown {w w' : World} {row : Option Nat} (h : w.grownBy w' row) {b : Nat} (hb : b < w.heap.size) (hn : some b ≠ row) : w'.heap[b]? = w.heap[b]? := h.block b hb hn

theorem push_ext {E : Env} {objs : List Obj} (g : Good E objs) {w : World} (L : Loc) (hw : E.w.grownBy w none) : Ext E (E.push w L) :=
  ⟨fun b hb => ⟨hb, hw.block b (g.sl b hb) (by simp)⟩, Nat.le_succ _, fun l hl u' hu' => by
    have hne : l ≠ E.len := by omega
    simp only [Env.push, upd_ne _ _ hne] at hu' ⊢
    exact ⟨u', hu', Nat.le_refl _, fun _ => trivial⟩⟩

theorem put_ext {E : Env} {objs : List Obj} (g : Good E objs) {w : World} {l : Nat} {L : Loc} {o : Obj} {u u' : Nat} {row : Option Nat} (hl : objs[l]? = some o)
    (hw : E.w.grownBy w row) (hrow : ∀ b, row = some b → o.has (E.loc l) ∧ b = (E.loc l).b)
    (hu : E.ver l = some u) (hle : u ≤ u') (heq : u = u' → L = E.loc l) : Ext E (E.put w l L u') :=
  ⟨fun b hs => ⟨hs, hw.block b (g.sl b hs) (by
      intro e
      obtain ⟨h1, h2⟩ := hrow b e.symm
      exact g.ns b ⟨l, o, hl, h1, h2.symm⟩ hs)⟩, Nat.le_refl _, fun j hj v' hv' => by
    by_cases hne : j = l
    · subst hne
      simp only [Env.put, upd_same] at hv' ⊢
      cases hv'
      exact ⟨u, hu, hle, heq⟩
    · simp only [Env.put, upd_ne _ _ hne] at hv' ⊢
      exact ⟨v', hv', Nat.le_refl _, fun _ => trivial⟩⟩

theorem Good.push {E : Env} {objs : List Obj} (g : Good E objs) {w : World} {L : Loc} {o : Obj} (hw : E.w.grownBy w none)
    (ho : ObjAt (E.push w L) E.len o) (hb : o.has L → E.w.heap.size ≤ L.b) : Good (E.push w L) (objs ++ [o]) ∧ Step E objs (E.push w L) (objs ++ [o]) := by
  have hS : ∀ b, E.S b → E.S b ∧ w.heap[b]? = E.w.heap[b]? := fun b hb => ⟨hb, hw.block b (g.sl b hb) (by simp)⟩
  have hx : Ext E (E.push w L) := ⟨hS, Nat.le_succ _, fun l hl u' hu' => by
    have hne : l ≠ E.len := by omega
    simp only [Env.push, upd_ne _ _ hne] at hu' ⊢
    exact ⟨u', hu', Nat.le_refl _, fun _ => trivial⟩⟩
  have hget : ∀ l o', (objs ++ [o])[l]? = some o' → (l < objs.length ∧ objs[l]? = some o') ∨ (l = E.len ∧ o' = o) := by
    intro l o' h
    rcases Nat.lt_or_ge l objs.length with hl | hl
    · rw [List.getElem?_append_left hl] at h; exact .inl ⟨hl, h⟩
    · rw [List.getElem?_append_right hl] at h
      have := (List.getElem?_eq_some_iff.1 h).1
      simp at this
      have e : l - objs.length = 0 := by omega
      rw [e] at h; simp at h
      exact .inr ⟨by have := g.len; omega, h.symm⟩
  have hown : ∀ b, ownB (E.push w L) (objs ++ [o]) b → ownB E objs b ∨ E.w.heap.size ≤ b := by
    rintro b ⟨l, o', h1, h2, h3⟩
    rcases hget l o' h1 with ⟨hl, h⟩ | ⟨rfl, rfl⟩
    · have hne : l ≠ E.len := by have := g.len; omega
      simp only [Env.push, upd_ne _ _ hne] at h2 h3
      exact .inl ⟨l, o', h, h2, h3⟩
    · simp only [Env.push, upd_same] at h2 h3
      subst h3
      exact .inr (hb h2)
  refine ⟨⟨by simp [Env.push, g.len], ?_, ?_, ?_, ?_⟩, ⟨hx, hw.os, hw.tape, hw.output, hw.size, fun b h _ => hw.block b h (by simp), fun b h => (hown b h).elim .inr .inl, fun b h => .inl h⟩⟩
  · intro l o' h
    rcases hget l o' h with ⟨hl, h⟩ | ⟨rfl, rfl⟩
    · have hne : l ≠ E.len := by have := g.len; omega
      have hk := g.at_ l o' h
      exact hk.keep hx (by simp only [Env.push, upd_ne _ _ hne]) (by simp only [Env.push, upd_ne _ _ hne]) (fun hh => hw.block _ (hk.block_lt hh) (by simp))
    · exact ho
  · intro b h hs
    rcases hown b h with h | h
    · exact g.ns b h hs
    · have := g.sl b hs; omega
  · intro b h; exact Nat.lt_of_lt_of_le (g.sl b h) hw.size
  · intro l l' o1 o2 h1 h2 h3 h4 h5
    rcases hget l o1 h1 with ⟨hl, k1⟩ | ⟨rfl, rfl⟩ <;> rcases hget l' o2 h2 with ⟨hl', k2⟩ | ⟨rfl, rfl⟩
    · have hne : l ≠ E.len := by have := g.len; omega
      have hne' : l' ≠ E.len := by have := g.len; omega
      simp only [Env.push, upd_ne _ _ hne, upd_ne _ _ hne'] at h3 h4 h5
      exact g.inj l l' o1 o2 k1 k2 h3 h4 h5
    · have hne : l ≠ E.len := by have := g.len; omega
      simp only [Env.push, upd_ne _ _ hne, upd_same] at h3 h4 h5
      have := (g.at_ l o1 k1).block_lt h3
      have := hb h4
      omega
    · have hne' : l' ≠ E.len := by have := g.len; omega
      simp only [Env.push, upd_ne _ _ hne', upd_same] at h3 h4 h5
      have := (g.at_ l' o2 k2).block_lt h4
      have := hb h3
      omega
    · rfl

theorem Good.put {E : Env} {objs : List Obj} (g : Good E objs) {w : World} {l : Nat} {L : Loc} {o o' : Obj} {u u' : Nat} {row : Option Nat} (hl : objs[l]? = some o)
    (hw : E.w.grownBy w row) (hrow : ∀ b, row = some b → o.has (E.loc l) ∧ b = (E.loc l).b)
    (hu : E.ver l = some u) (hle : u ≤ u') (heq : u = u' → L = E.loc l)
    (ho : ObjAt (E.put w l L u') l o') (hb : o'.has L → (o.has (E.loc l) ∧ L.b = (E.loc l).b) ∨ E.w.heap.size ≤ L.b) :
    Good (E.put w l L u') (objs.set l o') ∧ Step E objs (E.put w l L u') (objs.set l o') := by
  have hlt : l < objs.length := (List.getElem?_eq_some_iff.1 hl).1
  have hSne : ∀ b, E.S b → some b ≠ row := by
    intro b hs e
    obtain ⟨h1, h2⟩ := hrow b e.symm
    exact g.ns b ⟨l, o, hl, h1, h2.symm⟩ hs
  have hS : ∀ b, E.S b → E.S b ∧ w.heap[b]? = E.w.heap[b]? := fun b hs => ⟨hs, hw.block b (g.sl b hs) (hSne b hs)⟩
  have hx : Ext E (E.put w l L u') := ⟨hS, Nat.le_refl _, fun j hj v' hv' => by
    by_cases hne : j = l
    · subst hne
      simp only [Env.put, upd_same] at hv' ⊢
      cases hv'
      exact ⟨u, hu, hle, heq⟩
    · simp only [Env.put, upd_ne _ _ hne] at hv' ⊢
      exact ⟨v', hv', Nat.le_refl _, fun _ => trivial⟩⟩
  have hget : ∀ j p, (objs.set l o')[j]? = some p → (j ≠ l ∧ objs[j]? = some p) ∨ (j = l ∧ p = o') := by
    intro j p h
    rw [List.getElem?_set] at h
    split at h
    · rename_i e; subst e
      exact .inr ⟨rfl, by cases h; rfl⟩
    · rename_i e; exact .inl ⟨fun e' => e e'.symm, h⟩
  have hown : ∀ b, ownB (E.put w l L u') (objs.set l o') b → ownB E objs b ∨ E.w.heap.size ≤ b := by
    rintro b ⟨j, p, h1, h2, h3⟩
    rcases hget j p h1 with ⟨hne, h⟩ | ⟨rfl, rfl⟩
    · simp only [Env.put, upd_ne _ _ hne] at h2 h3
      exact .inl ⟨j, p, h, h2, h3⟩
    · simp only [Env.put, upd_same] at h2 h3
      rcases hb h2 with ⟨h4, h5⟩ | h4
      · exact .inl ⟨j, o, hl, h4, by rw [← h5, h3]⟩
      · exact .inr (h3 ▸ h4)
  refine ⟨⟨by simp [Env.put, g.len], ?_, ?_, ?_, ?_⟩, ⟨hx, hw.os, hw.tape, hw.output, hw.size, fun b h hn => hw.block b h (fun e => ?_), fun b h => (hown b h).elim .inr .inl, fun b h => .inl h⟩⟩
  · intro j p h
    rcases hget j p h with ⟨hne, h⟩ | ⟨rfl, rfl⟩
    · have hk := g.at_ j p h
      refine hk.keep hx (by simp only [Env.put, upd_ne _ _ hne]) (by simp only [Env.put, upd_ne _ _ hne]) (fun hh => hw.block _ (hk.block_lt hh) (fun e => hne ?_))
      obtain ⟨h6, h7⟩ := hrow _ e.symm
      exact g.inj j l p o h hl hh h6 h7
    · exact ho
  · intro b h hs
    rcases hown b h with h | h
    · exact g.ns b h hs
    · have := g.sl b hs; omega
  · intro b h; exact Nat.lt_of_lt_of_le (g.sl b h) hw.size
  · intro i j o1 o2 h1 h2 h3 h4 h5
    rcases hget i o1 h1 with ⟨hi, k1⟩ | ⟨rfl, rfl⟩ <;> rcases hget j o2 h2 with ⟨hj, k2⟩ | ⟨rfl, rfl⟩
    · simp only [Env.put, upd_ne _ _ hi, upd_ne _ _ hj] at h3 h4 h5
      exact g.inj i j o1 o2 k1 k2 h3 h4 h5
    · simp only [Env.put, upd_ne _ _ hi, upd_same] at h3 h4 h5
      rcases hb h4 with ⟨h6, h7⟩ | h6
      · exact g.inj i j o1 o k1 hl h3 h6 (h5.trans h7)
      · have := (g.at_ i o1 k1).block_lt h3; omega
    · simp only [Env.put, upd_ne _ _ hj, upd_same] at h3 h4 h5
      rcases hb h3 with ⟨h6, h7⟩ | h6
      · exact g.inj i j o o2 hl k2 h6 h4 (h7.symm.trans h5)
      · have := (g.at_ j o2 k2).block_lt h4; omega
    · rfl
  · obtain ⟨h6, h7⟩ := hrow b e.symm
    exact hn ⟨l, o, hl, h6, h7.symm⟩

/-- The object l becomes stable memory. -/
def Env.still (E : Env) (l : Nat) (has : Prop) : Env := ⟨E.w, fun b => E.S b ∨ (has ∧ b = (E.loc l).b), E.len, E.loc, upd E.ver l none⟩

theorem Good.still {E : Env} {objs : List Obj} (g : Good E objs) {l : Nat} {o : Obj} (hl : objs[l]? = some o) :
    Good (E.still l (o.has (E.loc l))) (objs.set l .dead) ∧ Step E objs (E.still l (o.has (E.loc l))) (objs.set l .dead) := by
  have hlt : l < objs.length := (List.getElem?_eq_some_iff.1 hl).1
  have hx : Ext E (E.still l (o.has (E.loc l))) := ⟨fun b hs => ⟨.inl hs, rfl⟩, Nat.le_refl _, fun j hj v' hv' => by
    by_cases hne : j = l
    · subst hne; simp only [Env.still, upd_same] at hv'; cases hv'
    · simp only [Env.still, upd_ne _ _ hne] at hv' ⊢
      exact ⟨v', hv', Nat.le_refl _, fun _ => trivial⟩⟩
  have hget : ∀ j p, (objs.set l .dead)[j]? = some p → (j ≠ l ∧ objs[j]? = some p) ∨ (j = l ∧ p = .dead) := by
    intro j p h
    rw [List.getElem?_set] at h
    split at h
    · rename_i e; subst e
      exact .inr ⟨rfl, by cases h; rfl⟩
    · rename_i e; exact .inl ⟨fun e' => e e'.symm, h⟩
  have hown : ∀ b, ownB (E.still l (o.has (E.loc l))) (objs.set l .dead) b → ∃ j p, j ≠ l ∧ objs[j]? = some p ∧ p.has (E.loc j) ∧ (E.loc j).b = b := by
    rintro b ⟨j, p, h1, h2, h3⟩
    rcases hget j p h1 with ⟨hne, h⟩ | ⟨rfl, rfl⟩
    · exact ⟨j, p, hne, h, h2, h3⟩
    · exact h2.elim
  refine ⟨⟨by simp [Env.still, g.len], ?_, ?_, ?_, ?_⟩, ⟨hx, rfl, rfl, rfl, Nat.le_refl _, fun _ _ _ => rfl, fun b h => ?_, fun b h => ?_⟩⟩
  · intro j p h
    rcases hget j p h with ⟨hne, h⟩ | ⟨rfl, rfl⟩
    · exact (g.at_ j p h).keep hx (by simp only [Env.still, upd_ne _ _ hne]) rfl (fun _ => rfl)
    · simp only [ObjAt, Env.still, upd_same]
  · intro b h hs
    obtain ⟨j, p, hne, h1, h2, h3⟩ := hown b h
    rcases hs with hs | ⟨hh, e⟩
    · exact g.ns b ⟨j, p, h1, h2, h3⟩ hs
    · exact hne (g.inj j l p o h1 hl h2 hh (h3.trans e))
  · rintro b (hs | ⟨hh, rfl⟩)
    · exact g.sl b hs
    · exact (g.at_ l o hl).block_lt hh
  · intro i j o1 o2 h1 h2 h3 h4 h5
    rcases hget i o1 h1 with ⟨hi, h1⟩ | ⟨rfl, rfl⟩
    · rcases hget j o2 h2 with ⟨hj, h2⟩ | ⟨rfl, rfl⟩
      · exact g.inj i j o1 o2 h1 h2 h3 h4 h5
      · exact h4.elim
    · exact h3.elim
  · obtain ⟨j, p, hne, h1, h2, h3⟩ := hown b h
    exact .inr ⟨j, p, h1, h2, h3⟩
  · rcases h with h | ⟨hh, e⟩
    · exact .inl h
    · exact .inr (.inr ⟨l, o, hl, hh, e.symm⟩)

/-- A world with the same memory. -/
def Env.at (E : Env) (w : World) : Env := { E with w := w }
theorem Good.at {E : Env} {objs : List Obj} (g : Good E objs) {w : World} (h : w.heap = E.w.heap) (h1 : w.os = E.w.os) (h2 : w.tape = E.w.tape) (h3 : w.output = E.w.output) :
    Good (E.at w) objs ∧ Step E objs (E.at w) objs := by
  have hx : Ext E (E.at w) := ⟨fun b hs => ⟨hs, by rw [show (E.at w).w = w from rfl, h]⟩, Nat.le_refl _, fun _ _ u hu => ⟨u, hu, Nat.le_refl _, fun _ => rfl⟩⟩
  refine ⟨⟨g.len, fun l o ho => (g.at_ l o ho).keep hx rfl rfl (fun _ => by rw [show (E.at w).w = w from rfl, h]), g.ns, fun b hs => by rw [show (E.at w).w = w from rfl, h]; exact g.sl b hs, g.inj⟩,
    ⟨hx, h1, h2, h3, by rw [show (E.at w).w = w from rfl, h]; exact Nat.le_refl _, fun b _ _ => by rw [show (E.at w).w = w from rfl, h], fun b hb => .inr hb, fun b hb => .inl hb⟩⟩

end Go.Proofs.Ytlncingakpelbaa
