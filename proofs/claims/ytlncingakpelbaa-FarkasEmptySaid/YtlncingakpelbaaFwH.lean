/- Part of a proof that a law of the program holds for every input: how abstract states follow the program (part H). No conditions. -/
import Derived.Test.YtlncingakpelbaaFwG
namespace Go.Proofs.Ytlncingakpelbaa
open Go
set_option linter.unusedVariables false

variable {P : Program} {τ : TyTab} {E : Env} {objs : List Obj}

/-- A row of data has come to be in a new block. -/
theorem push_row (g : Good E objs) {T : Ty} {xs : List T.den} {w : World} {cur : Array Value} {e : TypeId} {cap : Nat} (hw : E.w.grownBy w none) (hb : w.heap[E.w.heap.size]? = some (.cells cur e (0, 0)))
    (hpos : 0 < T.size) (hcap : xs.length ≤ cap) (hmax : cap ≤ maxLen) (hsz : cur.size = cap * T.size) {cs : List Value} (hc : CellsL E.w E.S T xs cs) (ht : cur.toList.take (xs.length * T.size) = cs) :
    ∃ E', E'.w = w ∧ Good E' (objs ++ [.row T xs 0]) ∧ Step E objs E' (objs ++ [.row T xs 0]) ∧ Rep E' (.osl objs.length 0) (.slice (some ⟨E.w.heap.size, 0, none⟩) xs.length cap) := by
  let L : Loc := ⟨E.w.heap.size, .slice (some ⟨E.w.heap.size, 0, none⟩) xs.length cap, T.size⟩
  have hx := push_ext g L hw
  have h := Good.push g (L := L) (o := .row T xs 0) hw ⟨by simp [Env.push, upd_same], by simp only [Env.push, upd_same, L], hpos, e, cs, hc.mono hx.S, by
    by_cases hz : cap = 0
    · subst hz
      have : xs = [] := List.eq_nil_of_length_eq_zero (by omega)
      subst this
      exact .inl ⟨_, by simp only [Env.push, upd_same, L]; rfl, rfl⟩
    · exact .inr ⟨cap, cur, by simp only [Env.push, upd_same, L], by simp only [Env.push, upd_same, L]; exact hb, hcap, by omega, hmax, hsz, ht⟩⟩ (fun _ => Nat.le_refl _)
  refine ⟨_, rfl, h.1, h.2, .osl rfl (by rw [g.len]; exact Nat.lt_succ_self _) (fun u hu => ?_)⟩
  rw [g.len] at hu ⊢
  simp only [Env.push, upd_same, Option.some.injEq] at hu
  subst hu
  exact ⟨Nat.le_refl _, fun _ => by simp only [Env.push, upd_same, L]⟩

/-- The elements of a literal, put one behind the other. -/
theorem elemsOf_ok {T : Ty} : ∀ {parts : List (Nat × V)} {vals : List (Nat × Value)} {n : Nat} {xs : List T.den}, elemsOf T n parts = some xs →
    parts.map (·.1) = vals.map (·.1) → (∀ (j : Nat) (p : Nat × V) (q : Nat × Value), parts[j]? = some p → vals[j]? = some q → Rep E p.2 q.2) →
    xs.length = parts.length ∧ ∃ cs, CellsL E.w E.S T xs cs ∧ ∀ (cells : Array Value), n * T.size + parts.length * T.size ≤ cells.size →
      Instr.fill (fun i => some (i * T.size, T.size)) cells vals = some (cells.toList.take (n * T.size) ++ cs ++ cells.toList.drop (n * T.size + cs.length)).toArray
  | [], vals, n, xs, h, hm, _ => by
    have : vals = [] := by simpa using hm.symm
    subst this
    simp only [elemsOf, Option.some.injEq] at h
    subst h
    exact ⟨rfl, [], rfl, fun cells _ => by simp [Instr.fill]⟩
  | (i, v) :: parts, [], n, xs, h, hm, _ => by simp at hm
  | (i, v) :: parts, (i', c) :: vals, n, xs, h, hm, hr => by
    simp only [List.map_cons, List.cons.injEq] at hm
    obtain ⟨rfl, hm⟩ := hm
    simp only [elemsOf] at h
    split at h
    · rename_i hi
      subst hi
      split at h
      · rename_i x l hx hl
        cases h
        simp only [Option.bind_eq_some_iff] at hx
        obtain ⟨new, hn, hp⟩ := hx
        have hc := pack_rep hp (scells_reps hn (hr 0 _ _ rfl rfl)).1
        obtain ⟨h1, cs, h2, h3⟩ := elemsOf_ok (vals := vals) hl hm (fun j p q hp hq => hr (j + 1) p q (by simpa using hp) (by simpa using hq))
        have hcl := hc.length
        have hcsl := h2.length
        refine ⟨by simp [h1], c.cells.toList ++ cs, ⟨_, _, rfl, hc, h2⟩, fun cells hfit => ?_⟩
        have hmul : (i + 1) * T.size = i * T.size + T.size := Nat.succ_mul _ _
        have hmul2 : (parts.length + 1) * T.size = parts.length * T.size + T.size := Nat.succ_mul _ _
        simp only [List.length_cons] at hfit
        rw [fill_cons (off := i * T.size) (size := T.size) rfl hcl (by omega), h3 _ (by simp only [List.size_toArray, List.length_append, List.length_take, List.length_drop, Array.length_toList] at hcl ⊢; omega)]
        congr 2
        have hcsl' : cs.length = parts.length * T.size := by rw [hcsl, h1]
        apply List.ext_getElem?
        intro k
        have hA : (cells.toList.take (i * T.size) ++ c.cells.toList ++ cells.toList.drop (i * T.size + c.cells.toList.length)).length = cells.size := by
          simp only [List.length_append, List.length_take, List.length_drop, Array.length_toList] at hcl ⊢; omega
        have s1 := splice_get (A := cells.toList.take (i * T.size) ++ c.cells.toList ++ cells.toList.drop (i * T.size + c.cells.toList.length)) (vs := cs) (o := (i + 1) * T.size) (by rw [hA]; omega) k
        have s2 := splice_get (A := cells.toList) (vs := c.cells.toList) (o := i * T.size) (by simp only [Array.length_toList] at hcl ⊢; omega) k
        have s3 := splice_get (A := cells.toList) (vs := c.cells.toList ++ cs) (o := i * T.size) (by simp only [List.length_append, Array.length_toList] at hcl ⊢; omega) k
        rw [s1, s2, s3]
        simp only [List.length_append] at hcl ⊢
        by_cases c1 : k < i * T.size
        · rw [if_pos (by omega), if_pos c1, if_pos c1]
        · by_cases c2 : k < i * T.size + T.size
          · rw [if_pos (by omega), if_neg c1, if_pos (by omega), if_neg c1, if_pos (by omega), List.getElem?_append_left (by omega)]
          · rw [if_neg (by omega)]
            by_cases c3 : k < (i + 1) * T.size + cs.length
            · rw [if_pos c3, if_neg c1, if_pos (by omega), List.getElem?_append_right (by omega)]
              congr 1; omega
            · rw [if_neg c3, if_neg c1, if_neg (by omega), if_neg c1, if_neg (by omega)]
      · cases h
    · cases h

theorem effBuildSlice_ok (hτ : TabOk P τ) {t : TypeId} {len : Nat} {parts : List (Nat × V)} {vals : Array (Nat × Value)} {out : Out} (h : effBuildSlice τ objs t len parts = some out) (ho : okP out.ob) (g : Good E objs)
    (hm : parts.map (·.1) = vals.toList.map (·.1)) (hr : ∀ (j : Nat) (p : Nat × V) (q : Nat × Value), parts[j]? = some p → vals.toList[j]? = some q → Rep E p.2 q.2) : RanV P (Instr.buildSlice t len vals) E objs out := by
  unfold effBuildSlice at h
  split at h
  · rename_i e sz by_ zero co hti
    have ht : P.underlying t = some (.slice e) := (hτ t _ hti).kind
    split at h
    · rename_i ei hei
      have hei := hτ e _ hei
      split at h
      · rename_i T hT
        split at h
        · rename_i hlen
          simp only [Option.map_eq_some_iff] at h
          obtain ⟨xs, h1, rfl⟩ := h
          obtain ⟨hTs, hpos, _⟩ := hei.code T hT
          rw [← hTs] at hpos
          obtain ⟨info, z, hi, hs, hb, hz, hzl, hzs⟩ := hei.info
          obtain ⟨h2, cs, h3, h4⟩ := elemsOf_ok (vals := vals.toList) h1 hm hr
          have hsmall : len * info.size ≤ 2 ^ 24 := by rw [hs]; exact ho
          have hcl := h3.length
          let cells0 : Array Value := if len * info.size = 0 then #[] else (Array.range (len * info.size)).map (z.cells[· % z.cells.size]!)
          have hc0 : cells0.size = len * T.size := by
            show (if len * info.size = 0 then #[] else (Array.range (len * info.size)).map (z.cells[· % z.cells.size]!)).size = _
            split
            · rw [hTs, ← hs]; simp_all
            · rw [hTs, ← hs]; simp
          have h5 := h4 cells0 (by rw [hc0, hlen]; omega)
          have hcur : (cells0.toList.take (0 * T.size) ++ cs ++ cells0.toList.drop (0 * T.size + cs.length)).toArray = cs.toArray := by
            rw [Nat.zero_mul, Nat.zero_add, List.drop_of_length_le (by rw [Array.length_toList, hc0, hcl, h2, hlen]; exact Nat.le_refl _)]
            simp
          rw [hcur] at h5
          obtain ⟨E', hw, g1, g2, g3⟩ := push_row g (xs := xs) (w := E.w.alloc (.cells cs.toArray e)) (cur := cs.toArray) (e := e) (cap := xs.length) (World.grownBy_alloc _ _ _) (heap_alloc_new _ _)
            hpos (Nat.le_refl _) (by
              have : xs.length * 1 ≤ xs.length * T.size := Nat.mul_le_mul_left _ hpos
              have : len * info.size = xs.length * T.size := by rw [h2, hlen, hTs, hs]
              unfold maxLen; omega) (by simp [hcl]) h3 (by rw [← hcl]; simp)
          refine ⟨E', .slice (some ⟨E.w.heap.size, 0, none⟩) len len, ?_, g1, g2, ?_⟩
          · rw [hw]
            have hns : ¬ len * info.size > 2 ^ 24 := by omega
            have h5' : Instr.fill (fun i => some (i * info.size, info.size)) cells0 vals.toList = some cs.toArray := by rw [hs, ← hTs]; exact h5
            by_cases hz0 : len * info.size = 0
            · have e0 : cells0 = #[] := if_pos hz0
              rw [e0] at h5'
              have e2 : (Array.range (len * info.size)).map (fun x => (#[] : Array Value)[x % (#[] : Array Value).size]!) = #[] := by rw [hz0]; apply Array.eq_empty_of_size_eq_zero; simp
              simp only [Instr.buildSlice, Sem.run_bind, run_underlying ht, Result.andThen_ok, sizeOf_run hi, if_neg hns, Sem.run_ite, if_pos hz0, Sem.run_pure, e2, h5']
              simp [newRow]
            · have e0 : cells0 = _ := if_neg hz0
              rw [e0] at h5'
              simp [Instr.buildSlice, run_underlying ht, sizeOf_run hi, hns, hz0, zero_run hi hz, h5', newRow]
          · have e1 : xs.length = len := by rw [h2, hlen]
            rw [e1] at g3
            exact g3
        · cases h
      · cases h
    · cases h
  · cases h

theorem replicate_cells {w : World} {S : Nat → Prop} {T : Ty} {zs : List Value} (h : Cells w S T T.dflt zs) : ∀ n : Nat, CellsL w S T (List.replicate n T.dflt) (List.replicate n zs).flatten
  | 0 => rfl
  | n + 1 => ⟨zs, _, by simp [List.replicate_succ], h, replicate_cells h n⟩

theorem made_take {z : Array Value} {n c : Nat} (hz : 0 < z.size) (h : n ≤ c) : (madeCells z (c * z.size)).toList.take (n * z.size) = (List.replicate n z.toList).flatten := by
  have hl : n * z.size ≤ c * z.size := Nat.mul_le_mul_right _ h
  have key : ∀ n k, k < n * z.size → (List.replicate n z.toList).flatten[k]? = some z[k % z.size]! := by
    intro n
    induction n with
    | zero => intro k hk; simp at hk
    | succ n ih =>
      intro k hk
      rw [List.replicate_succ, List.flatten_cons]
      rcases Nat.lt_or_ge k z.size with h1 | h1
      · rw [List.getElem?_append_left (by simpa using h1), Nat.mod_eq_of_lt h1]
        simp [h1]
      · rw [List.getElem?_append_right (by simpa using h1), Array.length_toList, ih _ (by rw [Nat.succ_mul] at hk; omega), Nat.mod_eq_sub_mod h1]
  have hfl : ∀ n, (List.replicate n z.toList).flatten.length = n * z.size := by intro n; simp
  apply List.ext_getElem?
  intro k
  rw [List.getElem?_take]
  split
  · rename_i hk
    rw [key n k hk]
    simp only [madeCells, Array.getElem?_toList, Array.getElem?_map]
    rw [Array.getElem?_range, if_pos (by omega)]
    rfl
  · rw [List.getElem?_eq_none (by rw [hfl]; omega)]

theorem effMakeSlice_ok (hτ : TabOk P τ) {t : TypeId} {l c : V} {out : Out} (h : effMakeSlice τ objs t l c = some out) (ho : okP out.ob) (g : Good E objs) {l' c' : Value} (rl : Rep E l l') (rc : Rep E c c') :
    RanV P (Instr.makeSlice t l' c') E objs out := by
  unfold effMakeSlice at h
  split at h
  · rename_i e sz by_ zero co l c hti hl hc
    have ht : P.underlying t = some (.slice e) := (hτ t _ hti).kind
    have hl := asInt_inv hl rl
    have hc := asInt_inv hc rc
    subst hl hc
    split at h
    · rename_i ei hei
      have hei := hτ e _ hei
      split at h
      · rename_i T hT
        cases h
        obtain ⟨h0, hlc, hby, hmax⟩ : 0 ≤ l ∧ l ≤ c ∧ c * ei.bytes ≤ 140737488355328 ∧ c ≤ 9223372036854775807 := ho
        obtain ⟨hTs, hpos, hz0⟩ := hei.code T hT
        rw [← hTs] at hpos
        obtain ⟨info, z, hi, hs, hb, hz, hzl, hzs⟩ := hei.info
        have hrun := run_make (P := P) E.w t e info z ht hi hz .i64 .i64 l c h0 hlc (by rw [hb, Int.mul_comm]; omega) hmax
        have hzz : z.cells.size = T.size := by rw [hzs, hTs]
        have hlc' : l.toNat ≤ c.toNat := by omega
        obtain ⟨E', hw, g1, g2, g3⟩ := push_row g (xs := List.replicate l.toNat T.dflt) (w := E.w.alloc (.cells (madeCells z.cells (c.toNat * info.size)) e)) (cur := madeCells z.cells (c.toNat * info.size)) (e := e) (cap := c.toNat)
          (World.grownBy_alloc _ _ _) (heap_alloc_new _ _) hpos (by simpa using hlc') (by unfold maxLen; omega) (by rw [size_madeCells, hs, hTs]) (replicate_cells (hz0 E.w E.S) l.toNat) (by
            rw [List.length_replicate, hs, ← hTs, ← hzz, made_take (by omega) hlc', ← hzl])
        exact ⟨E', _, by rw [hw]; exact hrun, g1, g2, by simpa using g3⟩
      · cases h
    · cases h
  · cases h

/-! ### append, len, copy, slice -/
/-- A source of so many elements: where its cells are. -/
def SrcAt (w : World) (size m : Nat) (news : List Value) (c : Value) : Prop :=
  news.length = m * size ∧ ∃ a cap, c = .slice a m cap ∧ (0 < m → ∃ ad, a = some ad ∧ ∀ j v, news[j]? = some v → w.cell? (ad.add j) = some v)

theorem SrcAt.run {w : World} {size m : Nat} {news : List Value} {c : Value} (h : SrcAt w size m news c) {w' : World} (hw : w'.heap = w.heap) :
    (Builtin.firstCells size m c).run P w' = .ok news.toArray w' := by
  obtain ⟨h1, a, cap, rfl, h2⟩ := h
  by_cases hm : 0 < m
  · obtain ⟨ad, rfl, h3⟩ := h2 hm
    exact run_firstCells_some (P := P) w' size m ad m cap news h1 (fun j v hj => by rw [show w'.cell? (ad.add j) = w.cell? (ad.add j) from by simp only [World.cell?, hw]]; exact h3 j v hj)
  · have h0 : m = 0 := by omega
    subst h0
    have hn : news = [] := List.eq_nil_of_length_eq_zero (by omega)
    subst hn
    cases a with
    | none => simp [Builtin.firstCells]
    | some ad => simp [Builtin.firstCells, loadCells, loadCellsFrom]

theorem sl_src {T : Ty} {l : List T.den} {c : Value} (h : Cells E.w E.S (.sl T) l [c]) : ∃ cs, CellsL E.w E.S T l cs ∧ SrcAt E.w T.size l.length cs c := by
  obtain ⟨a, cap, hc, hcap, hl⟩ := h
  have hc' : c = .slice a l.length cap := by simpa using hc
  subst hc'
  by_cases hne : l = []
  · subst hne
    exact ⟨[], rfl, by simp, a, cap, rfl, fun h => by simp at h⟩
  · obtain ⟨b, off, rfl, hS, hx⟩ := hl hne
    have : ∀ (l' : List T.den) (k : Nat), (∀ i x, l'[i]? = some x → l[k + i]? = some x) → ∃ cs, CellsL E.w E.S T l' cs ∧ ∀ j u, cs[j]? = some u → E.w.cell? ⟨b, off + k * T.size + j, none⟩ = some u := by
      intro l'
      induction l' with
      | nil => intro k _; exact ⟨[], rfl, fun j u h => by simp at h⟩
      | cons x l' ih =>
        intro k hk
        obtain ⟨cs', h1, h2⟩ := hx k x (hk 0 x rfl)
        obtain ⟨cs, h3, h4⟩ := ih (k + 1) (fun i y hy => by rw [show k + 1 + i = k + (i + 1) from by omega]; exact hk (i + 1) y (by simpa using hy))
        have hl1 := h1.length
        refine ⟨cs' ++ cs, ⟨cs', cs, rfl, h1, h3⟩, fun j u hj => ?_⟩
        rcases Nat.lt_or_ge j cs'.length with hlt | hge
        · rw [List.getElem?_append_left hlt] at hj; exact h2 j u hj
        · rw [List.getElem?_append_right hge] at hj
          have := h4 _ u hj
          rw [Nat.succ_mul] at this
          rw [← this]; congr 2; omega
    obtain ⟨cs, h1, h2⟩ := this l 0 (fun i x h => by simpa using h)
    refine ⟨cs, h1, h1.length, _, cap, rfl, fun _ => ⟨_, rfl, fun j v hj => ?_⟩⟩
    rw [Addr.add_lit]
    simpa using h2 j v hj

theorem row_src {l : Nat} {T : Ty} {xs : List T.den} {ver : Nat} (h : ObjAt E l (.row T xs ver)) : ∃ cs, CellsL E.w E.S T xs cs ∧ SrcAt E.w T.size xs.length cs (E.loc l).v := by
  obtain ⟨hver, hesz, hpos, e, cs, h9, h10⟩ := h
  refine ⟨cs, h9, h9.length, ?_⟩
  rcases h10 with ⟨a, hv, rfl⟩ | ⟨cap, cur, hv1, hv2, hv3, hv4, hv5, hv6, hv7⟩
  · exact ⟨a, 0, hv, fun h => by simp at h⟩
  · refine ⟨_, cap, hv1, fun _ => ⟨_, rfl, fun j v hj => ?_⟩⟩
    rw [Addr.add_lit, cell_row hv2, Nat.zero_add]
    rw [← hv7, List.getElem?_take] at hj
    split at hj
    · simpa using hj
    · cases hj

theorem srcOf_ok {T : Ty} {x : V} {ys : List T.den} (h : srcOf T objs x = some ys) (g : Good E objs) {c : Value} (r : Rep E x c) : ∃ cs, CellsL E.w E.S T ys cs ∧ SrcAt E.w T.size ys.length cs c := by
  unfold srcOf at h
  split at h
  · rename_i l ver
    split at h
    · rename_i t xs ver' hcs
      split at h
      · rename_i ht
        subst ht
        split at h
        · rename_i hv
          cases h
          have hat := g.at_ _ _ hcs
          rw [osl_inv r hat.1 hv]
          exact row_src hat
        · cases h
      · cases h
    · cases h
  · exact sl_src (asSl_inv h r)

theorem append_grows {t ty e : TypeId} {i : TypeInfo} {z : Value} (ht : P.underlying t = some (.slice e)) (hi : P.info? e = some i) (hz : i.zero = some z) (w : World)
    {base : Option Addr} {n cap m : Nat} {olds news : List Value} {c : Value} (hold : (Builtin.firstCells i.size n (.slice base n cap)).run P w.drew = .ok olds.toArray w.drew) (hs : SrcAt w i.size m news c)
    (hg : cap < n + m) (h63 : ((n + m : Nat) : Int) ≤ 9223372036854775807) (hfit : Builtin.nextslicecap (n + m) cap * i.bytes ≤ 281474976710656) :
    (Builtin.append_ #[t, t] ty #[.slice base n cap, c]).run P w =
      .ok (.slice (some ⟨w.heap.size, 0, none⟩) (n + m) (grownCap w (n + m) cap e))
        (w.drew.alloc (.cells (olds.toArray ++ news.toArray ++ Builtin.zeroCells z.cells (grownCap w (n + m) cap e - (n + m))) e)) := by
  have hf := hs.run (P := P) (w' := w.drew) rfl
  obtain ⟨h1, a, cap', rfl, h2⟩ := hs
  have hn : ¬ (n + m ≤ cap) := by omega
  have h63' : ¬ (9223372036854775807 < ((n : Int) + (m : Int))) := by omega
  have h48' : ¬ (281474976710656 < Builtin.nextslicecap (n + m) cap * i.bytes) := by omega
  simp [Builtin.append_, run_underlying ht, sizeOf, typeInfo, zeroValue, hi, hz, Builtin.lenOf, hn, h63', h48', Question.forced, hold, hf, newRow, grownCap]
  congr 2
  apply Array.ext'
  simp

theorem append_fits' {t ty e e' : TypeId} {i : TypeInfo} (ht : P.underlying t = some (.slice e)) (hi : P.info? e = some i) (w : World) {b : Nat} {cur : Array Value} {n cap m : Nat} {news : List Value} {c : Value}
    (hb : w.heap[b]? = some (.cells cur e' (0, 0))) (hs : SrcAt w i.size m news c) (h1 : ∀ u ∈ news, u.oneCell' = true) (hg : n + m ≤ cap) (hfit : n * i.size + news.length ≤ cur.size) :
    (Builtin.append_ #[t, t] ty #[.slice (some ⟨b, 0, none⟩) n cap, c]).run P w =
      .ok (.slice (some ⟨b, 0, none⟩) (n + m) cap) (w.setRow b (cur.toList.take (n * i.size) ++ news ++ cur.toList.drop (n * i.size + news.length)).toArray) := by
  have hf := hs.run (P := P) (w' := w) rfl
  obtain ⟨_, a, cap', rfl, h2⟩ := hs
  have hst := run_storeCells_at P b (n * i.size) e' news 0 cur w hb (by simpa using hfit) h1
  simp only [Nat.add_zero] at hst
  simp [Builtin.append_, run_underlying ht, sizeOf, typeInfo, hi, Builtin.lenOf, hg, hf, Addr.add_lit, hst]

theorem append_nothing {t ty e : TypeId} {i : TypeInfo} (ht : P.underlying t = some (.slice e)) (hi : P.info? e = some i) (w : World) {a : Option Addr} {news : List Value} {c : Value} (hs : SrcAt w i.size 0 news c) :
    (Builtin.append_ #[t, t] ty #[.slice a 0 0, c]).run P w = .ok (.slice a 0 0) w := by
  have hf := hs.run (P := P) (w' := w) rfl
  obtain ⟨h1, b, cap', rfl, h2⟩ := hs
  have hn : news = [] := List.eq_nil_of_length_eq_zero (by omega)
  subst hn
  cases a <;> simp [Builtin.append_, run_underlying ht, sizeOf, typeInfo, hi, Builtin.lenOf, hf, storeCells]

theorem take_app {A B : List Value} {n : Nat} (h : A.length = n) (C : List Value) (k : Nat) (hk : n + B.length = k) : (A ++ B ++ C).take k = A ++ B := by
  subst hk h
  rw [← List.length_append]
  exact List.take_left

theorem effAppend_ok (hτ : TabOk P τ) {ts tx ty : TypeId} {s x : V} {out : Out} (h : effAppend τ objs ts tx s x = some out) (ho : okP out.ob) (g : Good E objs) {c d : Value} (rs : Rep E s c) (rx : Rep E x d) :
    RanV P (Builtin.append_ #[ts, tx] ty #[c, d]) E objs out := by
  unfold effAppend at h
  split at h
  · rename_i he
    subst he
    split at h
    · rename_i e sz by_ zero co hti
      have ht : P.underlying ts = some (.slice e) := (hτ ts _ hti).kind
      split at h
      · rename_i ei hei
        have hei := hτ e _ hei
        split at h
        · rename_i T hT
          obtain ⟨hTs, hpos, hz0⟩ := hei.code T hT
          rw [← hTs] at hpos
          obtain ⟨info, z, hi, hs, hb, hz, hzl, hzs⟩ := hei.info
          have hzz : z.cells.size = T.size := by rw [hzs, hTs]
          have hsT : info.size = T.size := by rw [hs, hTs]
          split at h
          · rename_i ys hys
            obtain ⟨news, hn1, hn2⟩ := srcOf_ok hys g rx
            have hnl := hn1.length
            rw [← hsT] at hn2
            have fresh : ∀ (xs : List T.den) (olds : List Value) (old : Nat), CellsL E.w E.S T xs olds → xs.length ≤ old → old < xs.length + ys.length → (xs.length + ys.length) ≤ 9223372036854775807 →
                ∀ cs, cs = Builtin.zeroCells z.cells (grownCap E.w (xs.length + ys.length) old e - (xs.length + ys.length)) →
                E.w.grownBy (E.w.drew.alloc (.cells (olds.toArray ++ news.toArray ++ cs) e)) none ∧
                (E.w.drew.alloc (.cells (olds.toArray ++ news.toArray ++ cs) e)).heap[E.w.heap.size]? = some (.cells (olds.toArray ++ news.toArray ++ cs) e (0, 0)) ∧
                (xs ++ ys).length ≤ grownCap E.w (xs.length + ys.length) old e ∧ grownCap E.w (xs.length + ys.length) old e ≤ maxLen ∧
                (olds.toArray ++ news.toArray ++ cs).size = grownCap E.w (xs.length + ys.length) old e * T.size ∧ CellsL E.w E.S T (xs ++ ys) (olds ++ news) ∧
                (olds.toArray ++ news.toArray ++ cs).toList.take ((xs ++ ys).length * T.size) = olds ++ news := by
              intro xs olds old hc1 hc2 hc3 hc4 cs hcs
              have hol := hc1.length
              have hge := grownCap_ge E.w (xs.length + ys.length) old e
              have hcl : cs.size = (grownCap E.w (xs.length + ys.length) old e - (xs.length + ys.length)) * T.size := by rw [hcs, size_zeroCells, hzz]
              refine ⟨⟨rfl, rfl, rfl, by simp, fun k hk _ => heap_alloc_old E.w.drew _ k hk⟩, heap_alloc_new E.w.drew _, by rw [List.length_append]; exact hge, grownCap_le_maxLen _ _ _ _ (by unfold maxLen; omega), ?_, hc1.append hn1, ?_⟩
              · simp only [Array.size_append, List.size_toArray, hol, hnl, hcl, ← Nat.add_mul]
                congr 1; omega
              · simp only [Array.toList_append]
                exact take_app rfl _ _ (by rw [List.length_append, hol, hnl, Nat.add_mul])
            split at h
            · -- nil
              cases h
              obtain ⟨h1, h2⟩ : ys.length * ei.bytes ≤ 140737488355328 ∧ ys.length ≤ 9223372036854775807 := ho
              cases rs with
              | nils a =>
                by_cases hm : ys.length = 0
                · have : ys = [] := List.eq_nil_of_length_eq_zero hm
                  subst this
                  have hrun := append_nothing (P := P) (ty := ty) ht hi E.w (a := a) (news := news) (c := d) (by simpa using hn2)
                  have hx := push_ext g (w := E.w) ⟨0, .slice a 0 0, T.size⟩ ⟨rfl, rfl, rfl, Nat.le_refl _, fun _ _ _ => rfl⟩
                  have hp := Good.push g (w := E.w) (L := ⟨0, .slice a 0 0, T.size⟩) (o := .row T [] 0) ⟨rfl, rfl, rfl, Nat.le_refl _, fun _ _ _ => rfl⟩
                    ⟨by simp [Env.push, upd_same], by simp only [Env.push, upd_same], hpos, e, [], rfl, .inl ⟨a, by simp only [Env.push, upd_same], rfl⟩⟩ (fun hh => absurd ⟨a, rfl⟩ hh)
                  refine ⟨E.push E.w ⟨0, .slice a 0 0, T.size⟩, _, hrun, hp.1, hp.2, .osl rfl (by rw [g.len]; exact Nat.lt_succ_self _) (fun u hu => ?_)⟩
                  rw [g.len] at hu ⊢
                  simp only [Env.push, upd_same, Option.some.injEq] at hu
                  subst hu
                  exact ⟨Nat.le_refl _, fun _ => by simp only [Env.push, upd_same]⟩
                · have hrun := append_grows (P := P) (ty := ty) ht hi hz E.w (base := a) (n := 0) (cap := 0) (olds := []) (by cases a <;> simp [Builtin.firstCells, loadCells, loadCellsFrom]) hn2 (by omega) (by omega)
                    (growslice_fits (by omega) (by rw [Nat.zero_add, hb]; exact h1))
                  simp only [Nat.zero_add] at hrun
                  obtain ⟨f1, f2, f3, f4, f5, f6, f7⟩ := fresh [] [] 0 rfl (Nat.le_refl _) (by simp; omega) (by simpa using h2) _ rfl
                  simp only [List.length_nil, Nat.zero_add, List.nil_append] at f1 f2 f3 f4 f5 f6 f7
                  obtain ⟨E', hw, g1, g2, g3⟩ := push_row g f1 f2 hpos f3 f4 f5 f6 f7
                  exact ⟨E', _, by rw [hw]; exact hrun, g1, g2, g3⟩
            · rename_i l ver
              split at h
              · rename_i t xs ver' hcs
                split at h
                · rename_i hT'
                  subst hT'
                  split at h
                  · rename_i hv
                    cases h
                    obtain ⟨h1, h2⟩ : (xs.length + ys.length) * ei.bytes ≤ 140737488355328 ∧ xs.length + ys.length ≤ 9223372036854775807 := ho
                    have hat := g.at_ _ _ hcs
                    have hc := osl_inv rs hat.1 hv
                    subst hc
                    obtain ⟨olds, ho1, ho2⟩ := row_src hat
                    have hlt : l < objs.length := (List.getElem?_eq_some_iff.1 hcs).1
                    obtain ⟨hver, hesz, _, e', cs, h9, h10⟩ := id hat
                    -- what the new place gives
                    have done : ∀ (w : World) (L : Loc) (row : Option Nat), E.w.grownBy w row → (∀ b, row = some b → (Obj.row t xs ver').has (E.loc l) ∧ b = (E.loc l).b) →
                        (∀ hx : Ext E (E.put w l L (ver' + 1)), ObjAt (E.put w l L (ver' + 1)) l (.row t (xs ++ ys) (ver' + 1))) →
                        ((Obj.row t (xs ++ ys) (ver' + 1)).has L → ((Obj.row t xs ver').has (E.loc l) ∧ L.b = (E.loc l).b) ∨ E.w.heap.size ≤ L.b) → L.v.oneCell' = true →
                        (Builtin.append_ #[ts, ts] ty #[(E.loc l).v, d]).run P E.w = .ok L.v w →
                        RanV P (Builtin.append_ #[ts, ts] ty #[(E.loc l).v, d]) E objs ⟨some ((xs.length + ys.length) * ei.bytes ≤ 140737488355328 ∧ xs.length + ys.length ≤ 9223372036854775807), .osl l (ver + 1), objs.set l (.row t (xs ++ ys) (ver + 1))⟩ := by
                      intro w L row hw hrow hobj hhas hone hrun
                      subst hv
                      have hx := put_ext (u' := ver + 1) (L := L) g hcs hw hrow hat.1 (Nat.le_succ _) (fun e => by omega)
                      have hp := Good.put (u' := ver + 1) g (o' := .row t (xs ++ ys) (ver + 1)) hcs hw hrow hat.1 (Nat.le_succ _) (fun e => by omega) (hobj hx) hhas
                      refine ⟨_, L.v, hrun, hp.1, hp.2, .osl hone (by show l < E.len; rw [← g.len]; exact hlt) (fun u hu => ?_)⟩
                      simp only [Env.put, upd_same, Option.some.injEq] at hu
                      subst hu
                      exact ⟨Nat.le_refl _, fun _ => by simp only [Env.put, upd_same]⟩
                    have grow : ∀ (base : Option Addr) (cap : Nat), (E.loc l).v = .slice base xs.length cap → xs.length ≤ cap → cap < xs.length + ys.length →
                        RanV P (Builtin.append_ #[ts, ts] ty #[(E.loc l).v, d]) E objs ⟨some ((xs.length + ys.length) * ei.bytes ≤ 140737488355328 ∧ xs.length + ys.length ≤ 9223372036854775807), .osl l (ver + 1), objs.set l (.row t (xs ++ ys) (ver + 1))⟩ := by
                      intro base cap hbase hc1 hc2
                      rw [hbase, ← hsT] at ho2
                      have hrun := append_grows (P := P) (ty := ty) ht hi hz E.w (base := base) (n := xs.length) (cap := cap) (olds := olds) (ho2.run rfl) hn2 hc2 (by omega)
                        (growslice_fits hc2 (by rw [hb]; exact h1))
                      obtain ⟨f1, f2, f3, f4, f5, f6, f7⟩ := fresh xs olds cap ho1 hc1 hc2 h2 _ rfl
                      refine done _ ⟨E.w.heap.size, .slice (some ⟨E.w.heap.size, 0, none⟩) (xs.length + ys.length) (grownCap E.w (xs.length + ys.length) cap e), t.size⟩ none f1 (fun b hb => by cases hb) (fun hx => ?_) (fun _ => .inr (Nat.le_refl _)) rfl (by rw [hbase]; exact hrun)
                      refine ⟨by simp [Env.put, upd_same], by simp only [Env.put, upd_same], hpos, e, _, f6.mono hx.S, .inr ⟨_, _, by simp only [Env.put, upd_same, List.length_append], by simp only [Env.put, upd_same]; exact f2, f3, ?_, f4, f5, f7⟩⟩
                      have := grownCap_ge E.w (xs.length + ys.length) cap e
                      omega
                    rcases h10 with ⟨a, hv0, rfl⟩ | ⟨cap, cur, hv1, hv2, hv3, hv4, hv5, hv6, hv7⟩
                    · by_cases hm : ys.length = 0
                      · have : ys = [] := List.eq_nil_of_length_eq_zero hm
                        subst this
                        have hrun := append_nothing (P := P) (ty := ty) ht hi E.w (a := a) (news := news) (c := d) (by simpa using hn2)
                        refine done E.w (E.loc l) none ⟨rfl, rfl, rfl, Nat.le_refl _, fun _ _ _ => rfl⟩ (fun b hb => by cases hb) (fun hx => ?_) (fun hh => absurd ⟨a, hv0⟩ hh) (by rw [hv0]; rfl) (by rw [hv0]; exact hrun)
                        exact ⟨by simp [Env.put, upd_same], by simp only [Env.put, upd_same]; exact hesz, hpos, e, [], rfl, .inl ⟨a, by simp only [Env.put, upd_same]; exact hv0, rfl⟩⟩
                      · exact grow a 0 hv0 (by simp) (by simp; omega)
                    · rcases Nat.lt_or_ge cap (xs.length + ys.length) with hlt' | hge
                      · exact grow _ cap hv1 hv3 hlt'
                      · have hol := ho1.length
                        have hcsl := h9.length
                        have hfit : xs.length * info.size + news.length ≤ cur.size := by
                          rw [hsT, hnl, hv6, ← Nat.add_mul]; exact Nat.mul_le_mul_right _ hge
                        have hv2' : E.w.heap[(E.loc l).b]? = some (.cells cur e' (0, 0)) := hv2
                        have hrun := append_fits' (P := P) (ty := ty) ht hi E.w hv2' hn2 hn1.one hge hfit
                        have hhas : (Obj.row t xs ver').has (E.loc l) := by
                          rintro ⟨a, ha⟩; rw [hv1] at ha; injection ha with _ e1; omega
                        refine done _ ⟨(E.loc l).b, .slice (some ⟨(E.loc l).b, 0, none⟩) (xs.length + ys.length) cap, t.size⟩ (some (E.loc l).b) (grown_setRow _ _ _) (fun b e => ⟨hhas, by cases e; rfl⟩) (fun hx => ?_)
                          (fun _ => .inl ⟨hhas, rfl⟩) rfl (by rw [hv1]; exact hrun)
                        refine ⟨by simp [Env.put, upd_same], by simp only [Env.put, upd_same], hpos, e', _, (h9.append hn1).mono hx.S, .inr ⟨cap, _, by simp only [Env.put, upd_same, List.length_append],
                          by simp only [Env.put, upd_same]; exact setRow_heap _ _ _ _ _ _ hv2', by rw [List.length_append]; exact hge, hv4, hv5, ?_, ?_⟩⟩
                        · simp only [List.size_toArray, List.length_append, List.length_take, List.length_drop, Array.length_toList]; omega
                        · rw [hsT, hv7]
                          exact take_app rfl _ _ (by rw [List.length_append, hcsl, hnl, Nat.add_mul])
                  · cases h
                · cases h
              · cases h
            · cases h
          · cases h
        · cases h
      · cases h
    · cases h
  · cases h

end Go.Proofs.Ytlncingakpelbaa
