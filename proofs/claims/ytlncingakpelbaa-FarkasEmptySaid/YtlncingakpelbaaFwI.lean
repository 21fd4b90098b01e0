/- Part of a proof that a law of the program holds for every input: how abstract states follow the program (part I). No conditions. -/
import Derived.Test.YtlncingakpelbaaFwH
namespace Go.Proofs.Ytlncingakpelbaa
open Go
set_option linter.unusedVariables false

variable {P : Program} {τ : TyTab} {E : Env} {objs : List Obj}

theorem row_len {l : Nat} {T : Ty} {xs : List T.den} {ver : Nat} (h : ObjAt E l (.row T xs ver)) : ∃ a cap, (E.loc l).v = .slice a xs.length cap := by
  obtain ⟨_, _, _, e', cs, h9, h10⟩ := h
  rcases h10 with ⟨a, hv, rfl⟩ | ⟨cap, cur, hv1, _⟩
  · exact ⟨a, 0, hv⟩
  · exact ⟨_, cap, hv1⟩

theorem effLen_ok (hτ : TabOk P τ) {t ty : TypeId} {x : V} {out : Out} (h : effLen τ objs t x = some out) (ho : okP out.ob) (g : Good E objs) {c : Value} (r : Rep E x c) :
    RanV P (Builtin.len_ #[t] ty #[c]) E objs out := by
  unfold effLen at h
  split at h
  · rename_i e sz by_ zero co T l hti
    cases h
    have ht : P.underlying t = some (.slice e) := (hτ t _ hti).kind
    obtain ⟨a, cap, hc, _⟩ := sl_inv r
    have hc' : c = .slice a (List.length (α := T.den) l) cap := by simpa using hc
    subst hc'
    exact .same g (v := .int .i64 (List.length (α := T.den) l)) (by simp [Builtin.len_, run_underlying ht, goInt]) (.mk_int _ _)
  · rename_i e sz by_ zero co hti
    cases h
    have ht : P.underlying t = some (.slice e) := (hτ t _ hti).kind
    cases r
    exact .same g (v := .int .i64 0) (by simp [Builtin.len_, run_underlying ht, goInt]) (.mk_int _ _)
  · rename_i e sz by_ zero co l ver hti
    have ht : P.underlying t = some (.slice e) := (hτ t _ hti).kind
    split at h
    · rename_i T xs ver' hcs
      split at h
      · rename_i hv
        cases h
        have hat := g.at_ _ _ hcs
        rw [osl_inv r hat.1 hv]
        obtain ⟨a, cap, e⟩ := row_len hat
        rw [e]
        exact .same g (v := .int .i64 xs.length) (by simp [Builtin.len_, run_underlying ht, goInt]) (.mk_int _ _)
      · cases h
    · cases h
  · rename_i e sz by_ zero co l ver n hti
    have ht : P.underlying t = some (.slice e) := (hτ t _ hti).kind
    split at h
    · rename_i T xs ver' hcs
      split at h
      · rename_i hv
        cases h
        have hat := g.at_ _ _ hcs
        rw [osp_inv r hat.1 hv]
        obtain ⟨a, cap, e⟩ := row_len hat
        rw [e]
        exact .same g (v := .int .i64 n) (by simp [partSlice, Builtin.len_, run_underlying ht, goInt]) (.mk_int _ _)
      · cases h
    · cases h
  · rename_i sz by_ zero co s hti
    cases h
    have ht : P.underlying t = some .string := (hτ t _ hti).kind
    rw [r.str_inv]
    exact .same g (v := .int .i64 s.size) (by simp [Builtin.len_, run_underlying ht, goInt]) (.mk_int _ _)
  · rename_i n e sz by_ zero co hti
    cases h
    have ht : P.underlying t = some (.array n e) := (hτ t _ hti).kind
    exact .same g (v := .int .i64 n) (by simp [Builtin.len_, run_underlying ht, goInt]) (.mk_int _ _)
  · cases h

theorem CellsL.take {w : World} {S : Nat → Prop} {t : Ty} : ∀ {l : List t.den} {cs : List Value} (n : Nat), CellsL w S t l cs → CellsL w S t (l.take n) (cs.take (n * t.size))
  | l, cs, 0, _ => by simp [CellsL]
  | [], cs, n + 1, h => by rw [show cs = [] from h]; simp [CellsL]
  | x :: l, cs, n + 1, ⟨c1, c2, h, h1, h2⟩ => by
    have hl := h1.length
    refine ⟨c1, c2.take (n * t.size), ?_, h1, h2.take n⟩
    rw [h, Nat.succ_mul, ← hl, Nat.add_comm, List.take_length_add_append, hl]
theorem CellsL.drop {w : World} {S : Nat → Prop} {t : Ty} : ∀ {l : List t.den} {cs : List Value} (n : Nat), CellsL w S t l cs → CellsL w S t (l.drop n) (cs.drop (n * t.size))
  | l, cs, 0, h => by simpa using h
  | [], cs, n + 1, h => by rw [show cs = [] from h]; simp [CellsL]
  | x :: l, cs, n + 1, ⟨c1, c2, h, h1, h2⟩ => by
    have hl := h1.length
    rw [h, Nat.succ_mul, ← hl, show n * c1.length + c1.length = c1.length + n * c1.length from Nat.add_comm _ _, List.drop_length_add_append, hl]
    exact h2.drop n

theorem effCopy_ok (hτ : TabOk P τ) {td tx ty : TypeId} {d x : V} {out : Out} (h : effCopy τ objs td tx d x = some out) (ho : okP out.ob) (g : Good E objs) {c c' : Value} (rd : Rep E d c) (rx : Rep E x c') :
    RanV P (Builtin.copy_ #[td, tx] ty #[c, c']) E objs out := by
  unfold effCopy at h
  split at h
  · rename_i e sz by_ zero co e2 sz2 by2 zero2 co2 hti hti2
    have ht : P.underlying td = some (.slice e) := (hτ td _ hti).kind
    split at h
    · rename_i ei hei
      have hei := hτ e _ hei
      split at h
      · rename_i T hT
        obtain ⟨hTs, hpos, hz0⟩ := hei.code T hT
        rw [← hTs] at hpos
        obtain ⟨info, z, hi, hs, hb, hz, hzl, hzs⟩ := hei.info
        have hsT : info.size = T.size := by rw [hs, hTs]
        split at h
        · rename_i ys l ver hys
          split at h
          · rename_i t xs ver' hcs
            split at h
            · rename_i hT'
              subst hT'
              split at h
              · rename_i hv
                cases h
                have hat := g.at_ _ _ hcs
                have hc := osl_inv rd hat.1 hv
                subst hc
                obtain ⟨news, hn1, hn2⟩ := sl_src (asSl_inv hys rx)
                have hnl := hn1.length
                obtain ⟨hver, hesz, _, e', cs, h9, h10⟩ := id hat
                -- the source's first elements
                have hsrc : ∀ n, n ≤ ys.length → SrcAt E.w t.size n (news.take (n * t.size)) (partSlice c' n) := by
                  intro n hn
                  obtain ⟨_, a, cap, hc', hx⟩ := hn2
                  subst hc'
                  have : n * t.size ≤ ys.length * t.size := Nat.mul_le_mul_right _ hn
                  refine ⟨by rw [List.length_take, hnl]; omega, a, cap, rfl, fun hp => ?_⟩
                  obtain ⟨ad, h1, h2⟩ := hx (by omega)
                  refine ⟨ad, h1, fun j v hj => h2 j v ?_⟩
                  rw [List.getElem?_take] at hj
                  split at hj
                  · exact hj
                  · cases hj
                have hfirst : ∀ n, n ≤ ys.length → (Builtin.firstCells info.size n c').run P E.w = .ok (news.take (n * t.size)).toArray E.w := by
                  intro n hn
                  have := (hsrc n hn).run (P := P) (w' := E.w) rfl
                  rw [← hsT] at this ⊢
                  obtain ⟨_, a, cap, hc', hx⟩ := hn2
                  subst hc'
                  cases a <;> simpa [partSlice, Builtin.firstCells] using this
                have hlen : ∀ w, (Builtin.lenOf c').run P w = .ok ys.length w := by
                  intro w
                  obtain ⟨_, a, cap, hc', hx⟩ := hn2
                  subst hc'
                  simp [Builtin.lenOf]
                have hmin : Nat.min ys.length xs.length = min ys.length xs.length := rfl
                have hm1 : min ys.length xs.length ≤ ys.length := Nat.min_le_left _ _
                have hm2 : min ys.length xs.length ≤ xs.length := Nat.min_le_right _ _
                have hlt : l < objs.length := (List.getElem?_eq_some_iff.1 hcs).1
                rcases h10 with ⟨a, hv0, rfl⟩ | ⟨cap, cur, hv1, hv2, hv3, hv4, hv5, hv6, hv7⟩
                · have h0 := hfirst 0 (Nat.zero_le _)
                  subst hv
                  have hset : objs.set l (.row t (List.take (min ys.length ([] : List t.den).length) ys ++ List.drop (min ys.length ([] : List t.den).length) []) ver) = objs := by
                    simp only [List.length_nil, Nat.min_zero, List.take_zero, List.drop_nil, List.append_nil]
                    exact List.ext_getElem? fun j => by rw [List.getElem?_set]; split <;> simp_all
                  refine ⟨E, .int .i64 (0 : Nat), ?_, ?_, ?_, ?_⟩
                  · rw [hv0]
                    cases a <;> simp [Builtin.copy_, run_underlying ht, hlen, sizeOf_run hi, h0, goInt, storeCells]
                  · show Good E (objs.set l (.row t (List.take (min ys.length ([] : List t.den).length) ys ++ List.drop (min ys.length ([] : List t.den).length) []) ver))
                    rw [hset]; exact g
                  · show Step E objs E (objs.set l (.row t (List.take (min ys.length ([] : List t.den).length) ys ++ List.drop (min ys.length ([] : List t.den).length) []) ver))
                    rw [hset]; exact .refl _ _
                  · simpa using Rep.mk_int .i64 0
                · let n := min ys.length xs.length
                  let vs := news.take (n * t.size)
                  have hn1' : n * t.size ≤ ys.length * t.size := Nat.mul_le_mul_right _ hm1
                  have hn2' : n * t.size ≤ xs.length * t.size := Nat.mul_le_mul_right _ hm2
                  have hn3' : xs.length * t.size ≤ cap * t.size := Nat.mul_le_mul_right _ hv3
                  have hvl : vs.length = n * t.size := by show (news.take (n * t.size)).length = _; rw [List.length_take, hnl]; omega
                  have hvc : CellsL E.w E.S t (ys.take n) vs := hn1.take n
                  have hst := run_storeCells_at P (E.loc l).b 0 e' vs 0 cur E.w hv2 (by rw [hvl, hv6]; omega) hvc.one
                  simp only [Nat.add_zero, Nat.zero_add, List.take_zero, List.nil_append] at hst
                  have hhas : (Obj.row t xs ver').has (E.loc l) := by
                    rintro ⟨a, ha⟩; rw [hv1] at ha; injection ha with _ e1; omega
                  have hgr := grown_setRow E.w (E.loc l).b (vs ++ cur.toList.drop vs.length).toArray
                  have hrow : ∀ b, some (E.loc l).b = some b → (Obj.row t xs ver').has (E.loc l) ∧ b = (E.loc l).b := fun b e => ⟨hhas, by cases e; rfl⟩
                  have hx := put_ext g hcs hgr hrow hat.1 (Nat.le_refl ver') (fun _ => rfl)
                  have hdrop : CellsL E.w E.S t (xs.drop n) (cs.drop (n * t.size)) := h9.drop n
                  have hlenx : (ys.take n ++ xs.drop n).length = xs.length := by simp only [List.length_append, List.length_take, List.length_drop]; omega
                  have hnew := Good.put g (o' := .row t (ys.take n ++ xs.drop n) ver') hcs hgr hrow hat.1 (Nat.le_refl ver') (fun _ => rfl)
                    ⟨by simp [Env.put, upd_same], by simp only [Env.put, upd_same]; exact hesz, hpos, e', _, (hvc.append hdrop).mono hx.S, .inr ⟨cap, _, by simp only [Env.put, upd_same, hlenx]; exact hv1,
                      by simp only [Env.put, upd_same]; exact setRow_heap _ _ _ _ _ _ hv2, by rw [hlenx]; exact hv3, hv4, hv5, by simp only [List.size_toArray, List.length_append, List.length_drop, Array.length_toList]; omega, by
                        rw [hlenx, List.take_append, hvl, List.take_of_length_le (by omega)]
                        congr 1
                        rw [← hv7, List.drop_take]⟩⟩ (fun _ => .inl ⟨hhas, rfl⟩)
                  subst hv
                  refine ⟨_, .int .i64 (n : Nat), ?_, hnew.1, hnew.2, .mk_int _ _⟩
                  rw [hv1]
                  have h0 := hfirst n hm1
                  simp only [Builtin.copy_, List.getElem?_toArray, List.getElem?_cons_zero, List.getElem?_cons_succ, Sem.run_bind, run_underlying ht, Result.andThen_ok, hlen, sizeOf_run hi]
                  show ((Builtin.firstCells info.size n c').run P E.w).andThen _ = _
                  rw [h0]
                  simp only [Result.andThen_ok]
                  show ((storeCells _ vs).run P E.w).andThen _ = _
                  rw [hst]
                  rfl
              · cases h
            · cases h
          · cases h
        · cases h
      · cases h
    · cases h
  · cases h

theorem bound_run {v : V} {c : Value} {k : IntKind} {i : Int} (h : asInt v = some (k, i)) (r : Rep E v c) {y : Nat} {code : BoundsCode} (h0 : 0 ≤ i) (h1 : i ≤ (y : Int)) (w : World) :
    (Instr.sliceBound c y code).run P w = .ok i.toNat w := by
  rw [asInt_inv h r]
  simp [Instr.sliceBound, asIntOf, h0, h1]

/-- A part of a stable slice. -/
theorem cells_part {T : Ty} {l : List T.den} {a : Option Addr} {n cap : Nat} (h : Cells E.w E.S (.sl T) l [.slice a n cap]) (hpos : 0 < T.size) (lo hi : Nat) (h1 : lo ≤ hi) (h2 : hi ≤ l.length) :
    Cells E.w E.S (.sl T) ((l.take hi).drop lo) [.slice (if cap = lo then a else a.map (·.add (lo * T.size))) (hi - lo) (cap - lo)] := by
  obtain ⟨a', cap', hc, hcap, hl⟩ := h
  simp only [List.cons.injEq, Value.slice.injEq, and_true] at hc
  obtain ⟨rfl, rfl, rfl⟩ := hc
  have hlen : ((l.take hi).drop lo).length = hi - lo := by simp; omega
  refine ⟨_, _, by rw [hlen], by rw [hlen]; omega, fun hne => ?_⟩
  have hlt : lo < hi := by
    rcases Nat.lt_or_ge lo hi with h | h
    · exact h
    · exact absurd (List.eq_nil_of_length_eq_zero (by rw [hlen]; omega)) hne
  obtain ⟨b, off, rfl, hS, hx⟩ := hl (fun e => by rw [e] at h2; simp at h2; omega)
  refine ⟨b, off + lo * T.size, ?_, hS, fun i x hi' => ?_⟩
  · rw [if_neg (by omega)]; simp [Addr.add_lit]
  · rw [List.getElem?_drop, List.getElem?_take] at hi'
    split at hi'
    · obtain ⟨cs, h3, h4⟩ := hx (lo + i) x hi'
      refine ⟨cs, h3, fun j u hj => ?_⟩
      rw [show off + lo * T.size + i * T.size + j = off + (lo + i) * T.size + j from by rw [Nat.add_mul]; omega]
      exact h4 j u hj
    · cases hi'

theorem effSlice_ok (hτ : TabOk P τ) {t : TypeId} {x : V} {lo hi : Option V} {out : Out} (h : effSlice τ objs t x lo hi = some out) (ho : okP out.ob) (g : Good E objs) {c : Value} {lo' hi' : Option Value} (rx : Rep E x c)
    (rl : ∀ v, lo = some v → ∃ u, lo' = some u ∧ Rep E v u) (rl' : lo = none → lo' = none) (rh : ∀ v, hi = some v → ∃ u, hi' = some u ∧ Rep E v u) (rh' : hi = none → hi' = none) :
    RanV P (Instr.sliceAt t c lo' hi' none) E objs out := by
  unfold effSlice at h
  split at h
  · rename_i e sz by_ zero co T l hti
    have ht : P.underlying t = some (.slice e) := (hτ t _ hti).kind
    split at h
    · rename_i ei hei
      have hei := hτ e _ hei
      obtain ⟨info, z, hinf, hs, hb, hz, hzl, hzs⟩ := hei.info
      split at h
      · rename_i hsz
        obtain ⟨hsz, hpos⟩ := hsz
        have hc := sl_inv rx
        obtain ⟨a, cap, hc', hcap, _⟩ := id hc
        have hc'' : c = .slice a (List.length (α := T.den) l) cap := by simpa using hc'
        subst hc''
        have run : ∀ (lo hi : Nat) , lo ≤ hi → hi ≤ List.length (α := T.den) l →
            (∀ w, (Instr.sliceBounds true (List.length (α := T.den) l) cap lo' hi' none).run P w = .ok (lo, hi, cap) w) → ∀ p, RanV P (Instr.sliceAt t (.slice a (List.length (α := T.den) l) cap) lo' hi' none) E objs
              ⟨p, .d (.sl T) ((List.take (α := T.den) hi l).drop lo), objs⟩ := by
          intro lo hi h1 h2 hrun p
          have hp := cells_part hc hpos lo hi h1 h2
          refine .same g ?_ (.d hp)
          simp [Instr.sliceAt, run_underlying ht, Instr.slice, hrun, sizeOf_run hinf, hs, hsz]
        simp only [] at h
        split at h
        · cases h
          have := run 0 (List.length (α := T.den) l) (Nat.zero_le _) (Nat.le_refl _) (fun w => by rw [rl' rfl, rh' rfl]; simp [Instr.sliceBounds]) none
          simpa using this
        · rename_i h'
          split at h
          · rename_i k i hk
            cases h
            obtain ⟨h0, h1⟩ : (0 : Int) ≤ i ∧ i ≤ (List.length (α := T.den) l : Int) := ho
            obtain ⟨u, hu, ru⟩ := rh _ rfl
            have := run 0 i.toNat (Nat.zero_le _) (by omega) (fun w => by
              rw [rl' rfl, hu]
              simp [Instr.sliceBounds, bound_run hk ru h0 (show i ≤ (cap : Int) by omega)]) (some (0 ≤ i ∧ i ≤ (List.length (α := T.den) l : Int)))
            simpa using this
          · cases h
        · rename_i a'
          split at h
          · rename_i k i hk
            cases h
            obtain ⟨h0, h1⟩ : (0 : Int) ≤ i ∧ i ≤ (List.length (α := T.den) l : Int) := ho
            obtain ⟨u, hu, ru⟩ := rl _ rfl
            have := run i.toNat (List.length (α := T.den) l) (by omega) (Nat.le_refl _) (fun w => by
              rw [rh' rfl, hu]
              simp [Instr.sliceBounds, bound_run hk ru h0 h1]) (some (0 ≤ i ∧ i ≤ (List.length (α := T.den) l : Int)))
            simpa using this
          · cases h
        · rename_i a' h'
          split at h
          · rename_i k i k2 i2 hk hk2
            cases h
            obtain ⟨h0, h1, h2⟩ : (0 : Int) ≤ i ∧ i ≤ i2 ∧ i2 ≤ (List.length (α := T.den) l : Int) := ho
            obtain ⟨u, hu, ru⟩ := rl _ rfl
            obtain ⟨u2, hu2, ru2⟩ := rh _ rfl
            have e2 : ((i2.toNat : Nat) : Int) = i2 := Int.toNat_of_nonneg (by omega)
            exact run i.toNat i2.toNat (by omega) (by omega) (fun w => by
              rw [hu, hu2]
              simp [Instr.sliceBounds, bound_run hk ru h0 (show i ≤ ((i2.toNat : Nat) : Int) by omega), bound_run hk2 ru2 (show (0 : Int) ≤ i2 by omega) (show i2 ≤ (cap : Int) by omega)]) _
          · cases h
      · cases h
    · cases h
  · cases h

end Go.Proofs.Ytlncingakpelbaa
