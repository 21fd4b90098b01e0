/- Part of a proof that a law of the program holds for every input: how abstract states follow the program (part T). No conditions. -/
import Derived.Test.YtlncingakpelbaaFwS
import Derived.WalkKit
import Derived.ProofKit
import Derived.OpenShut
import Derived.ShutString
import Derived.ChangeOld
import Derived.Below
import Derived.Carry
import Derived.SizedLaws
namespace Go.Proofs.Ytlncingakpelbaa
open Go
open Go.ChangeShapes Go.WideShapes Go.ChangeAt Go.RowKit
set_option linter.unusedVariables false

/-! ## The arguments of a law: what is read is a datum -/
/-- Numbers fit their kinds, lists and texts are not longer than what may be. -/
def Wf : (T : Ty) → T.den → Prop
  | .int k, n => (Lit.int k n).wf = true
  | .bool, _ => True
  | .str, s => ByteArray.size s ≤ maxLen
  | .sl T, l => List.length (α := T.den) l ≤ maxLen ∧ ∀ x ∈ (l : List T.den), Wf T x
  | .pair a b, x => Wf a x.1 ∧ Wf b x.2
  | .unit, _ => True

/-- The fields of a struct, from an offset on, are the parts of a nested pair. -/
def FitS (P : Program) (F : TypeId → Ty → Prop) : Nat → List Field → Ty → Prop
  | o, [f], T => f.offset = o ∧ P.cellsOf f.type = T.size ∧ F f.type T
  | o, f :: fs, .pair A B => f.offset = o ∧ P.cellsOf f.type = A.size ∧ F f.type A ∧ FitS P F (o + A.size) fs B
  | _, _, _ => False

/-- The type t is coded by T. -/
def Fit (P : Program) : Nat → TypeId → Ty → Prop
  | 0, _, _ => False
  | n + 1, t, T => (match T with
    | .int k => P.underlying t = some (.int k)
    | .bool => P.underlying t = some .bool
    | .str => P.underlying t = some .string
    | .sl T => ∃ e, P.underlying t = some (.slice e) ∧ P.cellsOf e = T.size ∧ 0 < T.size ∧ Fit P n e T
    | _ => False) ∨ ∃ fs, P.underlying t = some (.struct fs) ∧ P.cellsOf t = T.size ∧ FitS P (Fit P n) 0 fs.toList T

section
variable {H : Type} {enc : TypeId × Value → H} {P : Program} {W : World} {held : Bool}

abbrev stab (W : World) : Nat → Prop := fun b => b < W.heap.size

theorem list_of {α : Type} {p : Nat → α → Prop} : ∀ n : Nat, (∀ i, i < n → ∃ y, p i y) → ∃ l : List α, l.length = n ∧ ∀ i y, l[i]? = some y → p i y
  | 0, _ => ⟨[], rfl, fun i y h => by simp at h⟩
  | n + 1, h => by
    obtain ⟨l, hl, hp⟩ := list_of n fun i hi => h i (by omega)
    obtain ⟨y, hy⟩ := h n (by omega)
    refine ⟨l ++ [y], by simp [hl], fun i z hz => ?_⟩
    by_cases e : i < l.length
    · rw [List.getElem?_append_left e] at hz; exact hp i z hz
    · rw [List.getElem?_append_right (by omega)] at hz
      have : i = l.length := by
        have := (List.getElem?_eq_some_iff.1 hz).1
        simp at this; omega
      subst this
      simp at hz
      subst hz
      rw [hl]; exact hy

theorem openS {F : TypeId → Ty → Prop} {m : Nat} (hF : ∀ t T, F t T → ∀ cs x, DataW.trod enc P W 0 (fun _ => true) held m t cs = some x → ∃ y : T.den, Cells W (stab W) T y cs ∧ Wf T y) :
    ∀ {fs : List Field} {o : Nat} {T : Ty} {cs : List Value}, FitS P F o fs T → (∀ f ∈ fs, ∃ x, DataW.trod enc P W 0 (fun _ => true) held m f.type ((cs.drop f.offset).take (P.cellsOf f.type)) = some x) → cs.length = o + T.size →
      ∃ y : T.den, Cells W (stab W) T y (cs.drop o) ∧ Wf T y
  | [], o, T, cs, h, _, _ => by unfold FitS at h; exact h.elim
  | [f], o, T, cs, h, hx, hl => by
    have h' : f.offset = o ∧ P.cellsOf f.type = T.size ∧ F f.type T := by unfold FitS at h; exact h
    obtain ⟨h1, h2, h3⟩ := h'
    obtain ⟨x, hx⟩ := hx f (by simp)
    rw [h1, h2, List.take_of_length_le (by rw [List.length_drop]; omega)] at hx
    exact hF _ _ h3 _ _ hx
  | f :: g :: fs, o, T, cs, h, hx, hl => by
    cases T <;> unfold FitS at h <;> try exact h.elim
    rename_i A B
    obtain ⟨h1, h2, h3, h4⟩ := h
    have hl' : cs.length = o + A.size + B.size := by rw [hl]; simp only [Ty.size]; omega
    obtain ⟨b, hb, hwb⟩ := openS hF (cs := cs) h4 (fun f hf => hx f (by simp [List.mem_cons.1 hf])) hl'
    obtain ⟨x, hx⟩ := hx f (by simp)
    rw [h1, h2] at hx
    obtain ⟨a, ha, hwa⟩ := hF _ _ h3 _ _ hx
    refine ⟨(a, b), ⟨_, _, ?_, ha, hb⟩, hwa, hwb⟩
    rw [← List.drop_drop, List.take_append_drop]

theorem cells_at {base : Nat} {a : Addr} {n : Nat} {cs : List Value} (h : W.cells? base a n = some cs) (hn : 0 < n) : a.spot = none ∧ a.block < W.heap.size ∧ cs.length = n ∧ ∀ j u, cs[j]? = some u → W.cell? ⟨a.block, a.off + j, none⟩ = some u := by
  obtain ⟨_, hl, hc⟩ := World.cells?_some h
  have h0 := hc 0 hn
  rw [List.getElem?_eq_getElem (by omega : 0 < cs.length)] at h0
  simp only [Addr.add, if_true, World.cell?] at h0
  have hs : a.spot = none ∧ a.block < W.heap.size := by
    split at h0
    · rename_i hb
      refine ⟨?_, (Array.getElem?_eq_some_iff.1 hb).1⟩
      split at h0
      · cases h0
      · rename_i hs; simpa using hs
    · cases h0
  refine ⟨hs.1, hs.2, hl, fun j u hj => ?_⟩
  have hjl : j < n := by rw [← hl]; exact (List.getElem?_eq_some_iff.1 hj).1
  rw [← hj, ← hc j hjl]
  obtain ⟨b, off, sp⟩ := a
  simp only at hs
  rw [hs.1]
  unfold Addr.add
  split
  · rename_i e; subst e; rfl
  · rfl

theorem open_T : ∀ (n : Nat) {t : TypeId} {T : Ty}, Fit P n t T → ∀ (fuel : Nat) (cs : List Value) (x : DataW H × List MemPlace), DataW.trod enc P W 0 (fun _ => true) held fuel t cs = some x → ∃ y : T.den, Cells W (stab W) T y cs ∧ Wf T y
  | 0, _, _, h, _, _, _, _ => h.elim
  | n + 1, t, T, h, fuel, cs, x, hx => by
    unfold Fit at h
    rcases h with h | ⟨fs, h1, h2, h3⟩
    · cases T with
      | int k =>
        obtain ⟨z, rfl, _, hw⟩ := DataW.trod_int h hx
        exact ⟨z, rfl, hw⟩
      | bool =>
        obtain ⟨z, rfl, _⟩ := DataW.trod_bool h hx
        exact ⟨z, rfl, trivial⟩
      | str =>
        obtain ⟨z, rfl, _, hw⟩ := DataW.trod_string h hx
        exact ⟨z, rfl, hw⟩
      | sl T =>
        obtain ⟨e, h1, h2, h3, h4⟩ := h
        rcases DataW.trod_slice h1 hx with ⟨rfl, _⟩ | ⟨a, len, cap, elems, rest, m, _, rfl, _, _, hl, hm, hlen, hel, _, _⟩
        · exact ⟨[], ⟨none, 0, rfl, ⟨Nat.le_refl _, Nat.zero_le _⟩, fun h => absurd rfl h⟩, Nat.zero_le _, fun x hx => by cases hx⟩
        · have each : ∀ i, i < len → ∃ y : T.den, (a.block < W.heap.size ∧ (len ≠ 0 → a.spot = none) ∧ ∃ cs', Cells W (stab W) T y cs' ∧ ∀ j u, cs'[j]? = some u → W.cell? ⟨a.block, a.off + i * T.size + j, none⟩ = some u) ∧ Wf T y := by
            intro i hi
            have h5 := hel i hi
            rw [List.getElem?_eq_getElem (by omega : i < elems.length), Option.bind_eq_some_iff] at h5
            obtain ⟨cs', h6, h7⟩ := h5
            rw [h2] at h6
            obtain ⟨y, hy, hw⟩ := open_T n h4 _ _ _ h7
            obtain ⟨k1, k2, k3, k4⟩ := cells_at h6 h3
            have hb : (a.add (i * T.size)).block = a.block := by unfold Addr.add; split <;> rfl
            have ho : (a.add (i * T.size)).off = a.off + i * T.size := by
              unfold Addr.add
              split
              · rename_i e; rw [e]; rfl
              · rfl
            rw [hb, ho] at k4
            rw [hb] at k2
            refine ⟨y, ⟨k2, fun _ => ?_, cs', hy, k4⟩, hw⟩
            have h50 := hel 0 (by omega)
            rw [List.getElem?_eq_getElem (by omega : 0 < elems.length), Option.bind_eq_some_iff] at h50
            obtain ⟨cs0, h60, _⟩ := h50
            rw [h2] at h60
            have := (cells_at h60 h3).1
            simpa [Addr.add] using this
          obtain ⟨l, hll, hlp⟩ := list_of len each
          refine ⟨l, ⟨some a, cap, by rw [hll], ⟨by rw [hll]; exact hl, hm⟩, fun hne => ?_⟩, by show l.length ≤ maxLen; omega, fun y hy => ?_⟩
          · have hpos : 0 < len := by rw [← hll]; exact List.length_pos_iff.2 hne
            obtain ⟨y0, ⟨hb, hs, _⟩, _⟩ := each 0 hpos
            refine ⟨a.block, a.off, ?_, hb, fun i x hi => ?_⟩
            · have := hs (by omega)
              obtain ⟨b, off, sp⟩ := a
              simp only at this
              rw [this]
            · obtain ⟨⟨_, _, cs', h8, h9⟩, _⟩ := hlp i x hi
              exact ⟨cs', h8, h9⟩
          · obtain ⟨i, hi⟩ := List.getElem?_of_mem hy
            exact (hlp i y hi).2
      | pair a b => exact h.elim
      | unit => exact h.elim
    · obtain ⟨xs, m, rfl, _, h4, h5, h6⟩ := DataW.trod_struct h1 hx
      have := openS (m := m) (fun t T hF cs x hx => open_T n hF m cs x hx) (cs := cs) h3 (fun f hf => by
        obtain ⟨i, hi⟩ := List.getElem?_of_mem hf
        have hi' : fs[i]? = some f := by simpa using hi
        have := h6 i f hi'
        have hlt : i < xs.length := by rw [h5]; exact (Array.getElem?_eq_some_iff.1 hi').1
        exact ⟨xs[i], by rw [this, List.getElem?_eq_getElem hlt]⟩) (by rw [Nat.zero_add, h4, h2])
      simpa using this
/-- The environment in which all that exists is stable. -/
def envOf (W : World) : Env := ⟨W, stab W, 0, fun _ => ⟨0, undef, 0⟩, fun _ => none⟩

theorem good_envOf (W : World) : Good (envOf W) [] := ⟨rfl, fun l o h => by simp at h, fun b ⟨l, o, h, _⟩ => by simp at h, fun b h => h, fun i j p q h => by simp at h⟩

theorem one_slice {r : Reach} {base : Nat} {t e : TypeId} {v : Value} (ht : P.underlying t = some (.slice e)) (h : Value.okWide P W r base t v) : v.cells = #[v] := by obtain ⟨a, l, c, rfl⟩ := okWide_slice ht h; rfl
theorem one_int {r : Reach} {base : Nat} {t : TypeId} {k : IntKind} {v : Value} (ht : P.underlying t = some (.int k)) (h : Value.okWide P W r base t v) : v.cells = #[v] := by obtain ⟨a, rfl⟩ := okWide_int ht h; rfl
theorem one_bool {r : Reach} {base : Nat} {t : TypeId} {v : Value} (ht : P.underlying t = some .bool) (h : Value.okWide P W r base t v) : v.cells = #[v] := by obtain ⟨a, rfl⟩ := okWide_bool ht h; rfl
theorem one_string {r : Reach} {base : Nat} {t : TypeId} {v : Value} (ht : P.underlying t = some .string) (h : Value.okWide P W r base t v) : v.cells = #[v] := by obtain ⟨a, rfl⟩ := okWide_string ht h; rfl

theorem arg_plain {n : Nat} {t : TypeId} {T : Ty} {v : Value} {d : DataW H} {p : List MemPlace} (hf : Fit P n t T) (h : DataW.Trod enc P W 0 (fun _ => true) held t v d p) (hv : v.cells = #[v]) : ∃ y : T.den, Rep (envOf W) (.d T y) v ∧ Wf T y := by
  obtain ⟨fuel, h⟩ := h
  rw [hv] at h
  obtain ⟨y, hy, hw⟩ := open_T n hf _ _ _ h
  exact ⟨y, .d hy, hw⟩

theorem arg_agg {n : Nat} {t : TypeId} {T : Ty} {v : Value} {d : DataW H} {p : List MemPlace} (hf : Fit P n t T) (h : DataW.Trod enc P W 0 (fun _ => true) held t v d p) {fs : Array Field} {r : Reach} {base : Nat} (ht : P.underlying t = some (.struct fs)) (hk : Value.okWide P W r base t v) :
    ∃ y : T.den, Rep (envOf W) (.agg (flat T y)) v ∧ Wf T y := by
  obtain ⟨cs, rfl, _⟩ := okWide_struct ht hk
  obtain ⟨fuel, h⟩ := h
  obtain ⟨y, hy, hw⟩ := open_T n hf _ _ _ h
  have hr := flat_rep (E := envOf W) hy
  refine ⟨y, .agg ?_ fun j hj => ?_, hw⟩
  · have := hr.1; simpa [Value.cells] using this
  · have := hr.2 j hj
    simpa [Value.cells, Array.getD_eq_getD_getElem?, List.getD_eq_getElem?_getD] using this

theorem law_calls {f : FuncId} {vs : List V} {args : Array Value} (h : OkC P f vs (vb true)) (hr : Reps (envOf W) vs args.toList) : Calls P f args W fun e w' => e = .returned (.bool true) ∧ Below W.heap.size W w' := by
  refine (h.2 [] (envOf W) args (good_envOf W) hr).mono ?_
  rintro e w ⟨v, E', r, objs, rfl, rfl, g', st, hv, rfl, rfl⟩
  refine ⟨by rw [hv.bool_inv], st.os, st.tape, st.output, st.size, fun k hk => st.frame k hk fun ⟨l, o, h, _⟩ => by simp at h⟩
end

end Go.Proofs.Ytlncingakpelbaa
