/- Part of a proof that a law of the program holds for every input: how abstract states follow the program (part E). No conditions. -/
import Derived.Test.YtlncingakpelbaaFwD
namespace Go.Proofs.Ytlncingakpelbaa
open Go
set_option linter.unusedVariables false

/-! ## Every operation that the evaluator takes runs so -/
/-- A computation that ends in a value. -/
def RanV (P : Program) (s : Sem Value) (E : Env) (objs : List Obj) (out : Out) : Prop :=
  ∃ E' v, s.run P E.w = .ok v E'.w ∧ Good E' out.objs ∧ Step E objs E' out.objs ∧ Rep E' out.v v
def RanU (P : Program) (s : Sem Unit) (E : Env) (objs : List Obj) (out : Out) : Prop :=
  ∃ E', s.run P E.w = .ok () E'.w ∧ Good E' out.objs ∧ Step E objs E' out.objs

variable {P : Program} {τ : TyTab} {E : Env} {objs : List Obj}

theorem RanV.same {s : Sem Value} {v : Value} {a : V} {p : Option Prop} (g : Good E objs) (h : s.run P E.w = .ok v E.w) (r : Rep E a v) : RanV P s E objs ⟨p, a, objs⟩ :=
  ⟨E, v, h, g, .refl _ _, r⟩

theorem info_run {t : TypeId} {i : TypeInfo} (h : P.info? t = some i) (w : World) : (typeInfo t).run P w = .ok i w := by simp [typeInfo, h]
theorem sizeOf_run {t : TypeId} {i : TypeInfo} (h : P.info? t = some i) (w : World) : (sizeOf t).run P w = .ok i.size w := by simp [sizeOf, info_run h]
theorem zero_run {t : TypeId} {i : TypeInfo} {z : Value} (h : P.info? t = some i) (hz : i.zero = some z) (w : World) : (zeroValue t).run P w = .ok z w := by simp [zeroValue, info_run h, hz]

def descAgg : TypeDesc → Bool
  | .struct _ | .array _ _ => true
  | _ => false
theorem TI.Ok.desc {t : TypeId} {i : TI} (h : i.Ok P t) : i.k.known = true → ∃ d, P.underlying t = some d ∧ descAgg d = i.isAgg := by
  have hk := h.kind
  obtain ⟨k, size, bytes, zero, code⟩ := i
  cases k <;> simp only [TI.isAgg] at hk ⊢
  case int k => exact fun _ => ⟨_, hk, rfl⟩
  case bool => exact fun _ => ⟨_, hk, rfl⟩
  case str => exact fun _ => ⟨_, hk, rfl⟩
  case sl => exact fun _ => ⟨_, hk, rfl⟩
  case arr => exact fun _ => ⟨_, hk, rfl⟩
  case st => obtain ⟨fs, h1, _⟩ := hk; exact fun _ => ⟨_, h1, rfl⟩
  case ptr => obtain ⟨e, h1⟩ := hk; exact fun _ => ⟨_, h1, rfl⟩
  case map => exact fun _ => ⟨_, hk, rfl⟩
  case fn => obtain ⟨_, _, _, h1⟩ := hk; exact fun _ => ⟨_, h1, rfl⟩
  case other => intro h; cases h

theorem isAgg_run {t : TypeId} {d : TypeDesc} (h : P.underlying t = some d) (w : World) : (isAgg t).run P w = .ok (descAgg d) w := by
  simp only [isAgg, Sem.run_bind, run_underlying h, Result.andThen_ok]
  cases d <;> rfl

/-- A variable is loaded: the cells at its place. -/
theorem loadVar_run {t : TypeId} {ti : TI} (ht : ti.Ok P t) (hk : ti.k.known = true) (w : World) (b off : Nat) (cs : List Value) (hl : cs.length = ti.size)
    (h : ∀ j u, cs[j]? = some u → w.cell? ⟨b, off + j, none⟩ = some u) (ho : ti.isAgg = true ∨ cs.length = 1) :
    (loadVar t ⟨b, off, none⟩).run P w = .ok (if ti.isAgg then .agg cs.toArray else cs.getD 0 undef) w := by
  obtain ⟨d, hd, ha⟩ := ht.desc hk
  obtain ⟨info, z, hi, hs, _⟩ := ht.info
  have hcells := run_loadCells_list (P := P) w ⟨b, off, none⟩ cs (fun j v hj => by rw [Addr.add_lit]; exact h j v hj)
  cases hb : ti.isAgg with
  | true =>
    rw [hb] at ha
    simp [loadVar, isAgg_run hd, ha, sizeOf_run hi, hs, ← hl, hcells]
  | false =>
    rw [hb] at ha ho
    have h1 : cs.length = 1 := ho.resolve_left (by simp)
    obtain ⟨c, rfl⟩ := List.length_eq_one_iff.1 h1
    have := h 0 c (by simp)
    simp only [Nat.add_zero] at this
    simp [loadVar, Sem.run_bind, isAgg_run hd, ha, Result.andThen_ok, this]

theorem ofCells_rep {agg : Bool} {cs : List V} {v : V} {vals : List Value} (h : ofCells agg cs = some v) (r : Reps E cs vals) :
    Rep E v (if agg then .agg vals.toArray else vals.getD 0 undef) ∧ (agg = true ∨ vals.length = 1) := by
  unfold ofCells at h
  cases agg with
  | true =>
    simp only [if_true, Option.some.injEq] at h ⊢
    subst h
    exact ⟨.agg (by simpa using r.1) (fun j hj => by simpa using r.2 j hj), .inl trivial⟩
  | false =>
    simp only [Bool.false_eq_true, if_false] at h ⊢
    split at h
    · cases h
      exact ⟨by simpa using r.2 0 (by simp), .inr (by simpa using r.1)⟩
    · cases h

theorem takeN_inv {n : Nat} {l cs : List V} (h : takeN n l = some cs) : cs = l.take n ∧ cs.length = n := by
  unfold takeN at h
  split at h
  · cases h; exact ⟨rfl, by simp; omega⟩
  · cases h

theorem cell_row {w : World} {b : Nat} {vals : Array Value} {t : TypeId} {fr : Nat × Nat} (h : w.heap[b]? = some (.cells vals t fr)) (o : Nat) : w.cell? ⟨b, o, none⟩ = vals[o]? := by
  simp [World.cell?, h]

/-- Cells of a stretch of a row. -/
theorem Reps.at_cells {w : World} {b : Nat} {vals : Array Value} {t : TypeId} {fr : Nat × Nat} {cs : List V} (h : w.heap[b]? = some (.cells vals t fr)) (r : Reps E cs vals.toList) (off n : Nat) :
    Reps E ((cs.drop off).take n) ((vals.toList.drop off).take n) ∧ ∀ j u, ((vals.toList.drop off).take n)[j]? = some u → w.cell? ⟨b, off + j, none⟩ = some u := by
  refine ⟨(r.drop off).take n, fun j u hj => ?_⟩
  rw [cell_row h]
  rw [List.getElem?_take] at hj
  split at hj
  · simpa using hj
  · cases hj

theorem box_reps {l : Nat} {cs : List V} (h : ObjAt E l (.box cs)) : ∃ vals t, E.w.heap[(E.loc l).b]? = some (.cells vals t (0, 0)) ∧ Reps E cs vals.toList := by
  obtain ⟨_, vals, t, h1, h2, h3⟩ := h
  exact ⟨vals, t, h1, by simpa using h2, fun j hj => by simpa [Array.getD_eq_getD_getElem?, List.getD_eq_getElem?_getD] using h3 j hj⟩

/-- An element of an own row. -/
theorem row_elem {l : Nat} {T : Ty} {xs : List T.den} {ver : Nat} (h : ObjAt E l (.row T xs ver)) {i : Nat} (hi : i < xs.length) :
    ∃ cs, Cells E.w E.S T (xs.getD i T.dflt) cs ∧ ∀ j u, cs[j]? = some u → E.w.cell? ⟨(E.loc l).b, i * T.size + j, none⟩ = some u := by
  obtain ⟨_, _, _, e, cs, h1, h2⟩ := h
  obtain ⟨c, hc, hj⟩ := h1.get i xs[i] (List.getElem?_eq_getElem hi)
  rcases h2 with ⟨a, _, rfl⟩ | ⟨cap, cur, _, h3, _, _, _, _, h4⟩
  · simp at hi
  · refine ⟨c, by rw [List.getD_eq_getElem?_getD, List.getElem?_eq_getElem hi]; exact hc, fun j u hu => ?_⟩
    rw [cell_row h3]
    have := hj j u hu
    rw [← h4, List.getElem?_take] at this
    split at this
    · simpa using this
    · cases this

/-- What the loads have in common: the place's cells are the wanted leaves. -/
theorem load_ok {t : TypeId} {ti : TI} (ht : ti.Ok P t) (hk : ti.k.known = true) (g : Good E objs) {b off : Nat} {cs : List V} {vals : List Value} {a : V} {p : Option Prop} (r : Reps E cs vals)
    (h : ∀ j u, vals[j]? = some u → E.w.cell? ⟨b, off + j, none⟩ = some u) (hl : cs.length = ti.size) (ha : ofCells ti.isAgg cs = some a) :
    RanV P (Instr.loadAt t (.pointer (some ⟨b, off, none⟩))) E objs ⟨p, a, objs⟩ := by
  obtain ⟨r1, r2⟩ := ofCells_rep ha r
  have := loadVar_run ht hk E.w b off vals (r.1.trans hl) h r2
  refine .same g (v := if ti.isAgg then .agg vals.toArray else vals.getD 0 undef) ?_ (by split <;> simp_all)
  simp only [Instr.loadAt, Instr.sureAddr, Sem.run_bind, Sem.run_pure, Result.andThen_ok, this]

theorem ref_inv {l ver off : Nat} {c : Value} {u : Nat} (r : Rep E (.ref l ver off) c) (hv : E.ver l = some u) (e : ver = u) : c = .pointer (some ⟨(E.loc l).b, off, none⟩) := by
  cases r with | ref _ _ h => exact (h u hv).2 e
theorem rref_inv {l ver i off : Nat} {c : Value} {u : Nat} (r : Rep E (.rref l ver i off) c) (hv : E.ver l = some u) (e : ver = u) : c = .pointer (some ⟨(E.loc l).b, i * (E.loc l).esz + off, none⟩) := by
  cases r with | rref _ _ h => exact (h u hv).2 e
theorem osl_inv {l ver : Nat} {c : Value} {u : Nat} (r : Rep E (.osl l ver) c) (hv : E.ver l = some u) (e : ver = u) : c = (E.loc l).v := by
  cases r with | osl _ _ h => exact (h u hv).2 e
theorem osp_inv {l ver n : Nat} {c : Value} {u : Nat} (r : Rep E (.osp l ver n) c) (hv : E.ver l = some u) (e : ver = u) : c = partSlice (E.loc l).v n := by
  cases r with | osp _ _ h => exact (h u hv).2 e
theorem er_inv {cs : List V} {c : Value} (r : Rep E (.er cs) c) : ∃ b off vals, c = .pointer (some ⟨b, off, none⟩) ∧ E.S b ∧ Reps E cs vals ∧ ∀ j u, vals[j]? = some u → E.w.cell? ⟨b, off + j, none⟩ = some u := by
  cases r with
  | er f h1 h2 h3 =>
    rename_i b off
    refine ⟨b, off, (List.range cs.length).map f, rfl, h1, ⟨by simp, fun j hj => ?_⟩, fun j u hj => ?_⟩
    · rw [List.getD_eq_getElem?_getD (l := List.map f _), List.getElem?_map, List.getElem?_range hj]; exact h3 j hj
    · rw [List.getElem?_map] at hj
      rcases Nat.lt_or_ge j cs.length with hl | hl
      · rw [List.getElem?_range hl] at hj; simp at hj; subst hj; exact h2 j hl
      · rw [List.getElem?_eq_none (by simpa using hl)] at hj; simp at hj

theorem effLoad_ok (hτ : TabOk P τ) {t : TypeId} {v : V} {out : Out} (h : effLoad τ objs t v = some out) (ho : okP out.ob) (g : Good E objs) {c : Value} (r : Rep E v c) :
    RanV P (Instr.loadAt t c) E objs out := by
  unfold effLoad at h
  split at h
  · cases h
  · rename_i ti hti
    have ht := hτ t ti hti
    split at h
    · rename_i hk
      split at h
      · -- a box
        split at h
        · rename_i cs hcs
          simp only [Option.map_eq_some_iff, Option.bind_eq_some_iff] at h
          obtain ⟨a, ⟨ds, h1, h2⟩, rfl⟩ := h
          obtain ⟨rfl, h3⟩ := takeN_inv h1
          have hat := g.at_ _ _ hcs
          obtain ⟨vals, t', h4, h5⟩ := box_reps hat
          obtain ⟨h6, h7⟩ := h5.at_cells h4 _ _
          rw [ref_inv r hat.1 rfl]
          exact load_ok ht hk g h6 h7 h3 h2
        · cases h
      · rename_i cs
        simp only [Option.map_eq_some_iff, Option.bind_eq_some_iff] at h
        obtain ⟨a, ⟨ds, h1, h2⟩, rfl⟩ := h
        obtain ⟨rfl, h3⟩ := takeN_inv h1
        obtain ⟨b, off, vals, rfl, _, h4, h5⟩ := er_inv r
        refine load_ok ht hk g (h4.take _) (fun j u hj => ?_) h3 h2
        rw [List.getElem?_take] at hj
        split at hj
        · exact h5 j u hj
        · cases hj
      · rename_i l ver i off
        split at h
        · rename_i T xs ver' hcs
          split at h
          · rename_i hv
            simp only [Option.map_eq_some_iff, Option.bind_eq_some_iff] at h
            obtain ⟨a, ⟨ds, h1, h2⟩, rfl⟩ := h
            obtain ⟨rfl, h3⟩ := takeN_inv h1
            have hat := g.at_ _ _ hcs
            obtain ⟨cs, h4, h5⟩ := row_elem hat (show i < xs.length from ho)
            rw [rref_inv r hat.1 hv, hat.2.1]
            refine load_ok ht hk g (((flat_rep h4).drop off).take _) (fun j u hj => ?_) h3 h2
            rw [List.getElem?_take] at hj
            split at hj
            · rw [Nat.add_assoc]
              exact h5 _ u (by simpa using hj)
            · cases hj
          · cases h
        · cases h
      · cases h
    · cases h

theorem grown_setRow (w : World) (g : Nat) (cs : Array Value) : w.grownBy (w.setRow g cs) (some g) :=
  ⟨rfl, rfl, rfl, by simp, fun k _ hk => setRow_other w g k _ (fun e => hk (by rw [e]))⟩

theorem putCells_inv {cs new cs' : List V} {off : Nat} (h : putCells cs off new = some cs') : off + new.length ≤ cs.length ∧ cs' = cs.take off ++ new ++ cs.drop (off + new.length) := by
  unfold putCells at h
  split at h
  · cases h; exact ⟨‹_›, rfl⟩
  · cases h

theorem Reps.put {cs new cs' : List V} {vals vs : List Value} {off : Nat} (h : putCells cs off new = some cs') (r : Reps E cs vals) (rn : Reps E new vs) :
    Reps E cs' (vals.take off ++ vs ++ vals.drop (off + vs.length)) ∧ off + vs.length ≤ vals.length := by
  obtain ⟨h1, rfl⟩ := putCells_inv h
  rw [rn.1, r.1]
  exact ⟨((r.take off).append rn).append (r.drop _), h1⟩

/-- A store of cells into a row of one's own. -/
theorem storeVar_run {t : TypeId} {ti : TI} (ht : ti.Ok P t) (w : World) (b off : Nat) (e : TypeId) (cur : Array Value) (v : Value) (hl : v.cells.toList.length = ti.size)
    (hb : w.heap[b]? = some (.cells cur e (0, 0))) (hfit : off + v.cells.toList.length ≤ cur.size) (h1 : ∀ u ∈ v.cells.toList, u.oneCell' = true) :
    (storeVar t ⟨b, off, none⟩ v).run P w = .ok () (w.setRow b (cur.toList.take off ++ v.cells.toList ++ cur.toList.drop (off + v.cells.toList.length)).toArray) := by
  obtain ⟨info, z, hi, hs, _⟩ := ht.info
  have hst := run_storeCells_at P b off e v.cells.toList 0 cur w hb (by simpa using hfit) h1
  simp only [Nat.add_zero] at hst
  have : v.cells.size = ti.size := by simpa using hl
  simp [storeVar, sizeOf_run hi, hs, this, hst]

theorem effStore_ok (hτ : TabOk P τ) {t : TypeId} {a x : V} {out : Out} (h : effStore τ objs t a x = some out) (ho : okP out.ob) (g : Good E objs) {c d : Value} (ra : Rep E a c) (rx : Rep E x d) :
    RanU P (Instr.storeAt t c d) E objs out := by
  unfold effStore at h
  split at h
  · cases h
  · rename_i ti hti
    have ht := hτ t ti hti
    split at h
    · cases h
    · rename_i new hnew
      obtain ⟨rn, hone⟩ := scells_reps hnew rx
      split at h
      · rename_i hsz
        have hl : d.cells.toList.length = ti.size := rn.1.trans hsz
        split at h
        · rename_i l off
          split at h
          · rename_i cs hcs
            simp only [Option.map_eq_some_iff] at h
            obtain ⟨cs', h1, rfl⟩ := h
            have hat := g.at_ _ _ hcs
            obtain ⟨vals, t', h4, h5⟩ := box_reps hat
            obtain ⟨h6, h7⟩ := h5.put h1 rn
            have hrun := storeVar_run ht E.w _ off t' vals d hl h4 (by simpa using h7) hone
            have hgr := grown_setRow E.w (E.loc l).b (vals.toList.take off ++ d.cells.toList ++ vals.toList.drop (off + d.cells.toList.length)).toArray
            have hrow : ∀ b, some (E.loc l).b = some b → (Obj.box cs).has (E.loc l) ∧ b = (E.loc l).b := fun b e => ⟨trivial, by cases e; rfl⟩
            have hx := put_ext g hcs hgr hrow hat.1 (Nat.le_refl 0) (fun _ => rfl)
            have h8 := h6.mono hx
            have hnew := Good.put g (o' := .box cs') hcs hgr hrow hat.1 (Nat.le_refl 0) (fun _ => rfl) ⟨by simp [Env.put, upd_same], _, t', by simp only [Env.put, upd_same]; exact setRow_heap _ _ _ _ _ _ h4, by simpa using h8.1, fun j hj => by simpa [Array.getD_eq_getD_getElem?, List.getD_eq_getElem?_getD] using h8.2 j hj⟩ (fun _ => .inl ⟨trivial, rfl⟩)
            exact ⟨_, by rw [ref_inv ra hat.1 rfl]; simp only [Instr.storeAt, Instr.sureAddr, Sem.run_bind, Sem.run_pure, Result.andThen_ok]; exact hrun, hnew.1, hnew.2⟩
          · cases h
        · rename_i l ver i off
          split at h
          · rename_i T xs ver' hcs
            split at h
            · rename_i hv
              simp only [Option.map_eq_some_iff, Option.bind_eq_some_iff] at h
              obtain ⟨y, ⟨cs', h1, h2⟩, rfl⟩ := h
              have hi : i < xs.length := ho
              have hat := g.at_ _ _ hcs
              obtain ⟨ce, h4, h5⟩ := row_elem hat hi
              obtain ⟨h6, h7⟩ := (flat_rep h4).put h1 rn
              have h8 := pack_rep h2 h6
              have hcel := h4.length
              obtain ⟨hver, hesz, hpos, e, cs, h9, h10⟩ := id hat
              rcases h10 with ⟨_, _, rfl⟩ | ⟨cap, cur, hv1, hv2, hv3, hv4, hv5, hv6, hv7⟩
              · simp at hi
              · have hmul : i * T.size + T.size ≤ xs.length * T.size := by rw [← Nat.succ_mul]; exact Nat.mul_le_mul_right _ hi
                have hcap : xs.length * T.size ≤ cap * T.size := Nat.mul_le_mul_right _ hv3
                have hfit : i * T.size + off + d.cells.toList.length ≤ cur.size := by rw [hv6]; omega
                have hrun := storeVar_run ht E.w _ (i * T.size + off) e cur d hl hv2 hfit hone
                have hgr := grown_setRow E.w (E.loc l).b (cur.toList.take (i * T.size + off) ++ d.cells.toList ++ cur.toList.drop (i * T.size + off + d.cells.toList.length)).toArray
                have hhas : (Obj.row T xs ver').has (E.loc l) := by
                  rintro ⟨a, ha⟩; rw [hv1] at ha; injection ha with _ e1; omega
                have hrow : ∀ b, some (E.loc l).b = some b → (Obj.row T xs ver').has (E.loc l) ∧ b = (E.loc l).b := fun b e => ⟨hhas, by cases e; rfl⟩
                have hx := put_ext g hcs hgr hrow hat.1 (Nat.le_refl ver') (fun _ => rfl)
                have hsp := splice_get (A := cur.toList) (vs := d.cells.toList) (o := i * T.size + off) (by simpa using hfit)
                have hspe := splice_get (A := ce) (vs := d.cells.toList) (o := off) h7
                have h11 : CellsL (E.put (E.w.setRow (E.loc l).b (cur.toList.take (i * T.size + off) ++ d.cells.toList ++ cur.toList.drop (i * T.size + off + d.cells.toList.length)).toArray) l (E.loc l) ver').w E.S T (xs.set i y)
                    ((cur.toList.take (i * T.size + off) ++ d.cells.toList ++ cur.toList.drop (i * T.size + off + d.cells.toList.length)).take (xs.length * T.size)) := by
                  refine CellsL.of_get (by simp only [List.length_take, List.length_append, List.length_drop, List.length_set, Array.length_toList]; omega) (fun i' x hx' => ?_)
                  rw [List.getElem?_set] at hx'
                  split at hx'
                  · rename_i hii
                    subst hii
                    have hxy : y = x := by simpa [hi] using hx'
                    subst hxy
                    refine ⟨_, h8.mono hx.S, fun j u hu => ?_⟩
                    have hjl : j < T.size := by
                      have := (List.getElem?_eq_some_iff.1 hu).1
                      have := (h8.mono hx.S).length
                      omega
                    rw [List.getElem?_take, if_pos (by omega), hsp]
                    rw [hspe] at hu
                    by_cases c1 : j < off
                    · rw [if_pos c1] at hu
                      rw [if_pos (by omega)]
                      have := h5 j u hu
                      rw [cell_row hv2] at this
                      simpa using this
                    · rw [if_neg c1] at hu
                      rw [if_neg (by omega)]
                      by_cases c2 : j < off + d.cells.toList.length
                      · rw [if_pos c2] at hu
                        rw [if_pos (by omega), show i * T.size + j - (i * T.size + off) = j - off from by omega]
                        exact hu
                      · rw [if_neg c2] at hu
                        rw [if_neg (by omega)]
                        have := h5 j u hu
                        rw [cell_row hv2] at this
                        simpa using this
                  · rename_i hii
                    obtain ⟨c, hc, hj⟩ := h9.get i' x hx'
                    have hi' : i' < xs.length := (List.getElem?_eq_some_iff.1 hx').1
                    have hcl := hc.length
                    refine ⟨c, hc.mono hx.S, fun j u hu => ?_⟩
                    have hjl : j < T.size := by have := (List.getElem?_eq_some_iff.1 hu).1; omega
                    have hm' : i' * T.size + T.size ≤ xs.length * T.size := by rw [← Nat.succ_mul]; exact Nat.mul_le_mul_right _ hi'
                    have hne : i' * T.size + T.size ≤ i * T.size ∨ i * T.size + T.size ≤ i' * T.size := by
                      rcases Nat.lt_or_ge i' i with hlt | hge
                      · left; rw [← Nat.succ_mul]; exact Nat.mul_le_mul_right _ hlt
                      · right; rw [← Nat.succ_mul]; exact Nat.mul_le_mul_right _ (by omega)
                    have h12 := hj j u hu
                    rw [← hv7, List.getElem?_take, if_pos (by omega)] at h12
                    rw [List.getElem?_take, if_pos (by omega), hsp]
                    rcases hne with hne | hne
                    · rw [if_pos (by omega)]; exact h12
                    · rw [if_neg (by omega), if_neg (by omega)]; exact h12
                have hnew := Good.put g (o' := .row T (xs.set i y) ver') hcs hgr hrow hat.1 (Nat.le_refl ver') (fun _ => rfl)
                  ⟨by simp [Env.put, upd_same], by simp only [Env.put, upd_same]; exact hesz, hpos, e, _, h11, .inr ⟨cap, _, by simp only [Env.put, upd_same, List.length_set]; exact hv1,
                    by simp only [Env.put, upd_same]; exact setRow_heap _ _ _ _ _ _ hv2, by simpa using hv3, hv4, hv5, by have hq := d.cells.length_toList; simp only [List.size_toArray, List.length_append, List.length_take, List.length_drop, Array.length_toList]; omega, by simp⟩⟩
                  (fun _ => .inl ⟨hhas, rfl⟩)
                subst hv
                refine ⟨_, by rw [rref_inv ra hat.1 rfl, hesz]; simp only [Instr.storeAt, Instr.sureAddr, Sem.run_bind, Sem.run_pure, Result.andThen_ok]; exact hrun, hnew.1, hnew.2⟩
            · cases h
          · cases h
        · cases h
      · cases h

theorem effFieldAddr_ok (hτ : TabOk P τ) {s : TypeId} {v : V} {f : Nat} {out : Out} (h : effFieldAddr τ objs s v f = some out) (ho : okP out.ob) (g : Good E objs) {c : Value} (r : Rep E v c) :
    RanV P (Instr.fieldAt s c f) E objs out := by
  unfold effFieldAddr at h
  split at h
  · rename_i offs size bytes zero code hs
    have ht := (hτ s _ hs).kind
    obtain ⟨fs, h1, h2, h3⟩ := ht
    split at h
    · rename_i o sz ho'
      have hnz := h3 (o, sz) (List.mem_of_getElem? ho')
      have hfo : ∃ fl, fs[f]? = some fl ∧ fl.offset = o ∧ P.cellsOf fl.type = sz := by
        rw [← h2] at ho'
        simp only [List.getElem?_map, Option.map_eq_some_iff, Prod.mk.injEq] at ho'
        obtain ⟨fl, h4, h5, h6⟩ := ho'
        exact ⟨fl, by simpa using h4, h5, h6⟩
      obtain ⟨fl, hf, hoff, hcs⟩ := hfo
      obtain ⟨fi, hfi, hfz⟩ : ∃ i, P.info? fl.type = some i ∧ i.size ≠ 0 := by
        cases hq : P.info? fl.type with
        | none => simp [Program.cellsOf, hq] at hcs; exact absurd hcs.symm hnz
        | some i => simp [Program.cellsOf, hq] at hcs; exact ⟨i, rfl, fun e => hnz (by simpa [← hcs] using e)⟩
      have hrun : ∀ b off, (Instr.fieldAt s (.pointer (some ⟨b, off, none⟩)) f).run P E.w = .ok (.pointer (some ⟨b, off + o, none⟩)) E.w := by
        intro b off
        simp [Instr.fieldAt, run_underlying h1, hf, Instr.sureAddr, fieldPlace, sizeOf_run hfi, hfz, Addr.add_lit, hoff]
      split at h
      · rename_i l off
        split at h
        · rename_i cs hcs
          cases h
          have hc := ref_inv r (g.at_ _ _ hcs).1 rfl
          subst hc
          refine .same g (hrun _ _) ?_
          cases r with
          | ref h1 h2 h3 => exact .ref rfl h2 (fun u hu => ⟨(h3 u hu).1, fun _ => rfl⟩)
        · cases h
      · cases h
        cases r with
        | er fc h4 h5 h6 =>
          rename_i cs b off
          refine .same g (hrun _ _) (.er (fun j => fc (o + j)) h4 (fun j hj => ?_) (fun j hj => ?_))
          · simp only [List.length_drop] at hj
            rw [Nat.add_assoc]; exact h5 _ (by omega)
          · simp only [List.length_drop] at hj
            have := h6 (o + j) (by omega)
            simpa [List.getD_eq_getElem?_getD] using this
      · rename_i l ver i off
        split at h
        · rename_i T xs ver' hcs
          split at h
          · rename_i hv
            cases h
            have hc := rref_inv r (g.at_ _ _ hcs).1 hv
            subst hc
            refine .same g (hrun _ _) ?_
            cases r with
            | rref h1 h2 h3 => exact .rref rfl h2 (fun u hu => ⟨(h3 u hu).1, fun _ => by rw [Nat.add_assoc]⟩)
          · cases h
        · cases h
      · cases h
    · cases h
  · cases h

/-- What a stable slice is. -/
theorem sl_inv {T : Ty} {l : List T.den} {c : Value} (r : Rep E (.d (.sl T) l) c) : Cells E.w E.S (.sl T) l [c] := by cases r with | d h => exact h

theorem cells_er {T : Ty} {x : T.den} {b off : Nat} {cs : List Value} (hb : E.S b) (h : Cells E.w E.S T x cs) (hc : ∀ j u, cs[j]? = some u → E.w.cell? ⟨b, off + j, none⟩ = some u) :
    Rep E (.er (flat T x)) (.pointer (some ⟨b, off, none⟩)) := by
  have r := flat_rep h
  refine .er (fun j => cs.getD j undef) hb (fun j hj => ?_) (fun j hj => r.2 j hj)
  have hj' : j < cs.length := by rw [r.1]; exact hj
  exact hc j _ (by simp [List.getD_eq_getElem?_getD, List.getElem?_eq_getElem hj'])

theorem index_run {t e : TypeId} {ei : TI} (ht : P.underlying t = some (.slice e)) (hei : ei.Ok P e) {b off n cap : Nat} {k : IntKind} {i : Int} (w : World) (h0 : 0 ≤ i) (h1 : i < (n : Int)) :
    (Instr.indexAt t (.slice (some ⟨b, off, none⟩) n cap) (.int k i)).run P w = .ok (.pointer (some ⟨b, off + i.toNat * ei.size, none⟩)) w := by
  obtain ⟨info, z, hi, hs, _⟩ := hei.info
  simp [Instr.indexAt, asIntOf, run_underlying ht, h0, h1, sizeOf_run hi, hs, Addr.add_lit]

theorem effIndexAddr_ok (hτ : TabOk P τ) {t : TypeId} {x ix : V} {out : Out} (h : effIndexAddr τ objs t x ix = some out) (ho : okP out.ob) (g : Good E objs) {c d : Value} (rx : Rep E x c) (ri : Rep E ix d) :
    RanV P (Instr.indexAt t c d) E objs out := by
  unfold effIndexAddr at h
  split at h
  · rename_i e size bytes zero code k i hs hix
    have ht : P.underlying t = some (.slice e) := (hτ t _ hs).kind
    have hd := asInt_inv hix ri
    subst hd
    split at h
    · rename_i ei hei
      have hei := hτ e ei hei
      split at h
      · rename_i T l
        split at h
        · rename_i hsz
          cases h
          obtain ⟨h0, h1⟩ : 0 ≤ i ∧ i < (List.length (α := T.den) l : Int) := ho
          obtain ⟨a, cap, hc, hcap, hl⟩ := sl_inv rx
          have hc' : c = .slice a (List.length (α := T.den) l) cap := by simpa using hc
          subst hc'
          have hlt : i.toNat < List.length (α := T.den) l := by omega
          obtain ⟨b, off, rfl, hS, hx⟩ := hl (fun e => by rw [e] at hlt; simp at hlt)
          obtain ⟨cs, h2, h3⟩ := hx i.toNat (List.getD (α := T.den) l i.toNat T.dflt) (by rw [List.getD_eq_getElem?_getD, List.getElem?_eq_getElem hlt]; rfl)
          refine .same g (index_run ht hei E.w h0 h1) ?_
          rw [← hsz]
          exact cells_er hS h2 h3
        · cases h
      · rename_i l ver
        split at h
        · rename_i T xs ver' hcs
          split at h
          · rename_i hv
            cases h
            obtain ⟨h0, h1⟩ : 0 ≤ i ∧ i < (xs.length : Int) := ho
            have hat := g.at_ _ _ hcs
            have hc := osl_inv rx hat.1 hv.1
            subst hc
            obtain ⟨hver, hesz, hpos, e', cs, h9, h10⟩ := id hat
            rcases h10 with ⟨_, _, rfl⟩ | ⟨cap, cur, hv1, hv2, _⟩
            · simp at h1; omega
            · rw [hv1]
              refine .same g (index_run ht hei E.w h0 h1) ?_
              rw [Nat.zero_add, ← hv.2, ← hesz]
              exact .rref rfl (by rw [← g.len]; exact (List.getElem?_eq_some_iff.1 hcs).1) (fun u hu => by
                rw [hver] at hu; cases hu; exact ⟨by omega, fun _ => by rw [Nat.add_zero]⟩)
          · cases h
        · cases h
      · rename_i l ver n
        split at h
        · rename_i T xs ver' hcs
          split at h
          · rename_i hv
            cases h
            obtain ⟨h0, h1, h2⟩ : 0 ≤ i ∧ i < (n : Int) ∧ n ≤ xs.length := ho
            have hat := g.at_ _ _ hcs
            have hc := osp_inv rx hat.1 hv.1
            subst hc
            obtain ⟨hver, hesz, hpos, e', cs, h9, h10⟩ := id hat
            rcases h10 with ⟨_, _, rfl⟩ | ⟨cap, cur, hv1, hv2, _⟩
            · simp at h2; omega
            · rw [hv1]
              refine .same g (index_run ht hei E.w h0 h1) ?_
              rw [Nat.zero_add, ← hv.2, ← hesz]
              exact .rref rfl (by rw [← g.len]; exact (List.getElem?_eq_some_iff.1 hcs).1) (fun u hu => by
                rw [hver] at hu; cases hu; exact ⟨by omega, fun _ => by rw [Nat.add_zero]⟩)
          · cases h
        · cases h
      · cases h
    · cases h
  · rename_i n e size bytes zero code k i hs hix
    have ht : P.underlying t = some (.array n e) := (hτ t _ hs).kind
    have hd := asInt_inv hix ri
    subst hd
    split at h
    · rename_i ei hei
      have hei := hτ e ei hei
      split at h
      · rename_i l ver
        split at h
        · rename_i T xs ver' hcs
          split at h
          · rename_i hv
            cases h
            obtain ⟨h0, h1⟩ : 0 ≤ i ∧ i < (n : Int) := ho
            have hat := g.at_ _ _ hcs
            have hc := rref_inv rx hat.1 hv.1
            subst hc
            obtain ⟨hver, hesz, hpos, e', cs, h9, h10⟩ := id hat
            obtain ⟨info, z, hi, hs', _⟩ := hei.info
            refine .same (v := .pointer (some ⟨(E.loc l).b, i.toNat * T.size, none⟩)) g ?_ ?_
            · simp [Instr.indexAt, asIntOf, run_underlying ht, h0, h1, sizeOf_run hi, hs', Addr.add_lit, Instr.sureAddr, hv.2]
            · rw [← hesz]
              exact .rref rfl (by rw [← g.len]; exact (List.getElem?_eq_some_iff.1 hcs).1) (fun u hu => by
                rw [hver] at hu; cases hu; exact ⟨by omega, fun _ => by rw [Nat.add_zero]⟩)
          · cases h
        · cases h
      · cases h
    · cases h
  · cases h

end Go.Proofs.Ytlncingakpelbaa
