/- Part of a proof that a law of the program holds for every input: how abstract states follow the program (part F). No conditions. -/
import Derived.Test.YtlncingakpelbaaFwE
import Derived.IntWalk
namespace Go.Proofs.Ytlncingakpelbaa
open Go
set_option linter.unusedVariables false

variable {P : Program} {τ : TyTab} {E : Env} {objs : List Obj}

theorem fits_wrap {k : IntKind} {n : Int} (h : fits k n) : k.wrap n = n := by
  cases k
  · exact IntWalk.i8_in n h
  · exact IntWalk.i16_in n h
  · exact IntWalk.i32_in n h
  · exact IntWalk.i64_in n h
  · exact IntWalk.u8_in n h
  · exact IntWalk.u16_in n h
  · exact IntWalk.u32_in n h
  · exact IntWalk.u64_in n h

theorem wr_ok {hx : Bool} {k : IntKind} {n : Int} (h : okP (wr hx k n).1) : k.wrap n = (wr hx k n).2 := by
  cases hx with
  | true => exact fits_wrap h
  | false => rfl

theorem effInt_ok {op : BinOp} {hx : Bool} {k : IntKind} {a b : Int} {r : Option Prop × V} (h : effInt op hx k a b = some r) (ho : okP r.1) (xt : TypeId) (w : World)
    (hs : op ≠ .shl ∧ op ≠ .shr) : ∃ c, (binOp op xt (.int k a) (.int k b)).run P w = .ok c w ∧ ∀ E, Rep E r.2 c := by
  cases op <;> simp only [effInt, Option.some.injEq, reduceCtorEq] at h <;> try subst h
  case add => exact ⟨_, by simp [binOp, Op.intArith]; rfl, fun E => by rw [wr_ok ho]; exact .mk_int _ _⟩
  case sub => exact ⟨_, by simp [binOp, Op.intArith]; rfl, fun E => by rw [wr_ok ho]; exact .mk_int _ _⟩
  case mul => exact ⟨_, by simp [binOp, Op.intArith]; rfl, fun E => by rw [wr_ok ho]; exact .mk_int _ _⟩
  case quo =>
    have ho' : b ≠ 0 ∧ okP (wr hx k (a.tdiv b)).1 := by cases hx <;> first | exact ⟨ho, trivial⟩ | exact ho
    exact ⟨_, by simp [binOp, Op.intDiv, ho'.1]; rfl, fun E => by rw [wr_ok ho'.2]; exact .mk_int _ _⟩
  case rem => exact ⟨_, by simp [binOp, Op.intDiv, show b ≠ 0 from ho], fun E => .mk_int _ _⟩
  case eql => exact ⟨_, by simp [binOp, Op.intCmp], fun E => .mk_bool _⟩
  case neq => exact ⟨_, by simp [binOp, Op.intCmp], fun E => .mk_bool _⟩
  case lss => exact ⟨_, by simp [binOp, Op.intCmp], fun E => .mk_bool _⟩
  case leq => exact ⟨_, by simp [binOp, Op.intCmp], fun E => .mk_bool _⟩
  case gtr => exact ⟨_, by simp [binOp, Op.intCmp], fun E => .mk_bool _⟩
  case geq => exact ⟨_, by simp [binOp, Op.intCmp], fun E => .mk_bool _⟩
  case and => exact ⟨_, by simp [binOp, Op.intBits], fun E => .mk_int _ _⟩
  case or => exact ⟨_, by simp [binOp, Op.intBits], fun E => .mk_int _ _⟩

theorem eqGuard_run (op : BinOp) (t : TypeId) (x y : Operand) {a b : Value} (ha : a.oneCell' = true) (hn : a ≠ .nilIface) (w : World) : (eqGuard op t x y a b).run P w = .ok () w := by
  unfold eqGuard
  cases op <;> (first | (simp; done) | (cases a <;> first | (simp [Value.oneCell'] at ha; done) | (exact absurd rfl hn) | (simp; done)))

theorem eqGuard_int (op : BinOp) (t : TypeId) (x y : Operand) (k : IntKind) (a : Int) (b : Value) (w : World) : (eqGuard op t x y (.int k a) b).run P w = .ok () w :=
  eqGuard_run op t x y rfl (by simp) w

theorem equal_of {t : TypeId} {x y : Value} {w : World} {r : Result Bool} (h : ∀ d, (Op.equalIn (d + 1) t x y).run P w = r) : (Op.equal t x y).run P w = r := h 9999

theorem equal_bool {t : TypeId} (h : P.underlying t = some .bool) (a b : Bool) (w : World) : (Op.equal t (.bool a) (.bool b)).run P w = .ok (a == b) w :=
  equal_of fun d => by simp only [Op.equalIn, Sem.run_bind, run_underlying h, Result.andThen_ok, Sem.run_pure]

theorem equal_ptr {t e : TypeId} (h : P.underlying t = some (.pointer e)) (q : Option Addr) (w : World) : (Op.equal t (.pointer q) (.pointer none)).run P w = .ok q.isNone w :=
  equal_of fun d => by cases q <;> simp only [Op.equalIn, Sem.run_bind, run_underlying h, Result.andThen_ok, Sem.run_pure, Option.isNone]

theorem binOp_eql {t : TypeId} {x y : Value} {b : Bool} {w : World} (h : (Op.equal t x y).run P w = .ok b w)
    (hs : (∃ a c, x = .bool a ∧ y = .bool c) ∨ (∃ a c, x = .pointer a ∧ y = .pointer c)) :
    (binOp .eql t x y).run P w = .ok (.bool b) w ∧ (binOp .neq t x y).run P w = .ok (.bool !b) w := by
  rcases hs with ⟨a, c, rfl, rfl⟩ | ⟨a, c, rfl, rfl⟩ <;> simp only [binOp, Sem.run_bind, h, Result.andThen_ok, Sem.run_pure, and_self]

theorem effBin_ok (hτ : TabOk P τ) {hx : Bool} {op : BinOp} {xt : TypeId} {ox oy : Operand} {x y : V} {out : Out} (h : effBin τ objs hx op xt x y = some out) (ho : okP out.ob) (g : Good E objs) {c d : Value}
    (rx : Rep E x c) (ry : Rep E y d) : RanV P (do eqGuard op xt ox oy c d; binOp op xt c d) E objs out := by
  unfold effBin at h
  split at h
  · rename_i k a k' b
    have hc := rx.int_inv
    have hd := ry.int_inv
    subst hc hd
    split at h
    · cases h
      have ho : 0 ≤ b := ho
      exact .same g (v := .int k (k.wrap (a * 2 ^ (min b.toNat k.bits)))) (by have hb : ¬ (b : Int) < 0 := Int.not_lt.mpr ho; simp [eqGuard_int, binOp, Op.shift, hb]) (.mk_int _ _)
    · cases h
      have ho : 0 ≤ b := ho
      exact .same g (v := .int k (a.fdiv (2 ^ (min b.toNat k.bits)))) (by have hb : ¬ (b : Int) < 0 := Int.not_lt.mpr ho; simp [eqGuard_int, binOp, Op.shift, hb]) (.mk_int _ _)
    · rename_i n1 n2
      split at h
      · rename_i hk
        subst hk
        simp only [Option.map_eq_some_iff] at h
        obtain ⟨r, h1, rfl⟩ := h
        obtain ⟨c, h2, h3⟩ := effInt_ok h1 ho xt E.w ⟨fun e => by subst e; exact (n1 rfl).elim, fun e => by subst e; exact (n2 rfl).elim⟩
        exact .same g (by simp only [Sem.run_bind, eqGuard_int, Result.andThen_ok]; exact h2) (h3 E)
      · cases h
  · rename_i a b
    have hc := rx.bool_inv
    have hd := ry.bool_inv
    subst hc hd
    split at h
    · rename_i sz by_ ze co hs
      have ht : P.underlying xt = some .bool := (hτ xt _ hs).kind
      split at h
      · cases h
        exact .same g (v := .bool (a == b)) (by simp only [Sem.run_bind, eqGuard_run _ _ _ _ (show (Value.bool a).oneCell' = true from rfl) (by simp), Result.andThen_ok]; exact (binOp_eql (equal_bool ht a b E.w) (.inl ⟨a, b, rfl, rfl⟩)).1) (.mk_bool _)
      · cases h
        exact .same g (v := .bool (a != b)) (by simp only [Sem.run_bind, eqGuard_run _ _ _ _ (show (Value.bool a).oneCell' = true from rfl) (by simp), Result.andThen_ok]; exact (binOp_eql (equal_bool ht a b E.w) (.inl ⟨a, b, rfl, rfl⟩)).2) (.mk_bool _)
      · cases h
    · cases h
  · cases ry
    split at h
    · rename_i sz by_ ze co hs
      obtain ⟨e, ht⟩ : ∃ e, P.underlying xt = some (.pointer e) := (hτ xt _ hs).kind
      have key : ∀ (b : Bool) (q : Option Addr), c = .pointer q → q.isNone = b → ∀ out, (match op with
          | .eql => some (⟨none, .d .bool b, objs⟩ : Out)
          | .neq => some ⟨none, .d .bool (!b), objs⟩
          | _ => none) = some out → RanV P (do eqGuard op xt ox oy c (.pointer none); binOp op xt c (.pointer none)) E objs out := by
        intro b q hq hb out h
        subst hq
        subst hb
        have heq := binOp_eql (equal_ptr ht q E.w) (.inr ⟨_, _, rfl, rfl⟩)
        split at h
        · cases h
          exact .same g (by simp only [Sem.run_bind, eqGuard_run _ _ _ _ (show (Value.pointer q).oneCell' = true from rfl) (by simp), Result.andThen_ok]; exact heq.1) (.mk_bool _)
        · cases h
          exact .same g (by simp only [Sem.run_bind, eqGuard_run _ _ _ _ (show (Value.pointer q).oneCell' = true from rfl) (by simp), Result.andThen_ok]; exact heq.2) (.mk_bool _)
        · cases h
      simp only [] at h
      split at h
      · cases rx; exact key true none rfl rfl out h
      · obtain ⟨b, off, vals, rfl, _⟩ := er_inv rx
        exact key false _ rfl rfl out h
      · rename_i b cs
        cases rx with
        | opt h1 h2 =>
          cases b with
          | true => obtain ⟨b, off, vals, rfl, _⟩ := er_inv (h1 rfl); exact key false _ rfl rfl out h
          | false => exact key true none (h2 rfl) rfl out h
      · cases h
    · cases h
  · cases h

theorem effUn_ok {hx : Bool} {op : UnOp} {x : V} {out : Out} (h : effUn objs hx op x = some out) (ho : okP out.ob) (g : Good E objs) {c : Value} (rx : Rep E x c) : RanV P (Op.unary op c) E objs out := by
  unfold effUn at h
  split at h
  · cases h
    have hc := rx.int_inv
    subst hc
    rename_i k n
    have hw := wr_ok ho
    exact .same g (v := .int k (wr hx k (-n)).2) (by simp [Op.unary, Op.intArith, hw]) (.mk_int _ _)
  · cases h
    have hc := rx.bool_inv
    subst hc
    exact .same g (by simp [Op.unary]) (.mk_bool _)
  · cases h

theorem effConvert_ok (hτ : TabOk P τ) {hx : Bool} {a b : TypeId} {x : V} {out : Out} (h : effConvert τ objs hx a b x = some out) (ho : okP out.ob) (g : Good E objs) {c : Value} (rx : Rep E x c) :
    RanV P (convert a b c) E objs out := by
  unfold effConvert at h
  split at h
  · rename_i k1 _ _ _ _ k2 _ _ _ _ k3 n h1 h2
    cases h
    have hc := rx.int_inv
    subst hc
    have ha : P.underlying a = some (.int k1) := (hτ a _ h1).kind
    have hb : P.underlying b = some (.int k2) := (hτ b _ h2).kind
    have hw := wr_ok ho
    exact .same g (v := .int k2 (wr hx k2 n).2) (by simp [convert, run_underlying ha, run_underlying hb, Conv.intToInt, hw]) (.mk_int _ _)
  · cases h

theorem effMinMax_ok {mx : Bool} {x y : V} {out : Out} (h : effMinMax objs mx x y = some out) (g : Good E objs) {c d : Value} (rx : Rep E x c) (ry : Rep E y d) (ts : Array TypeId) (t : TypeId) :
    RanV P (if mx then Builtin.max_ ts t #[c, d] else Builtin.min_ ts t #[c, d]) E objs out := by
  unfold effMinMax at h
  split at h
  · rename_i k a k' b
    split at h
    · rename_i hk
      subst hk
      cases h
      have hc := rx.int_inv
      have hd := ry.int_inv
      subst hc hd
      cases mx with
      | true => exact .same g (by simp [Builtin.max_, Builtin.max2]) (.mk_int _ _)
      | false => exact .same g (by simp [Builtin.min_, Builtin.min2]) (.mk_int _ _)
    · cases h
  · cases h

theorem boolV_inv {v : V} {p : Prop} {b : Bool} {c : Value} (h : boolV v = some (p, b)) (hp : p) (r : Rep E v c) : c = .bool b := by
  unfold boolV at h
  split at h
  · cases h; exact r.bool_inv
  · cases h
    cases r with | when h1 h2 => exact (h1 hp).bool_inv
  · cases h

theorem effPick_ok {oa ob : Operand} {c x y : V} {out : Out} (h : effPick objs oa ob c x y = some out) (ho : okP out.ob) (g : Good E objs) {c' x' y' : Value} (rc : Rep E c c') (rx : Rep E x x') (ry : Rep E y y')
    (hx : ∀ b, oa = .const (.bool b) → x' = .bool b) (hy : ∀ b, ob = .const (.bool b) → y' = .bool b) :
    RanV P (do pure (if ← Go.asBool c' then x' else y')) E objs out := by
  unfold effPick at h
  split at h
  · rename_i c gx x gy y h1 h2 h3
    have hc := asBool_inv h1 rc
    subst hc
    split at h
    · cases h
      have e := hx true rfl
      subst e
      cases c with
      | true => exact .same g (v := .bool true) (by simp [Go.asBool]) (.mk_bool _)
      | false =>
        have e := boolV_inv h3 (ho rfl) ry
        subst e
        exact .same g (v := .bool y) (by simp [Go.asBool]) (by simpa using .mk_bool _)
    · cases h
      have e := hy false rfl
      subst e
      cases c with
      | false => exact .same g (v := .bool false) (by simp [Go.asBool]) (.mk_bool _)
      | true =>
        have e := boolV_inv h2 (ho rfl) rx
        subst e
        exact .same g (v := .bool x) (by simp [Go.asBool]) (by simpa using .mk_bool _)
    · cases h
      obtain ⟨h4, h5⟩ := ho
      cases c with
      | true =>
        have e := boolV_inv h2 (h4 rfl) rx
        subst e
        exact .same g (v := .bool x) (by simp [Go.asBool]) (by simpa using .mk_bool _)
      | false =>
        have e := boolV_inv h3 (h5 rfl) ry
        subst e
        exact .same g (v := .bool y) (by simp [Go.asBool]) (by simpa using .mk_bool _)
  · cases h

end Go.Proofs.Ytlncingakpelbaa
