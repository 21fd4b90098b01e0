/- Part of a proof that a law of the program holds for every input: what the functions answer, in plain Lean. No conditions. -/
import Derived.Test.YtlncingakpelbaaZ
namespace Go.Proofs.Ytlncingakpelbaa
open Go
set_option linter.unusedVariables false

/-! ## What the functions answer (by hand) -/
def slices_Clone_Sint_int.fn (a1 : List Int) : List Int := a1
abbrev slices_Clone_Sint_int.pre (a1 : List Int) : Prop := a1.length * 8 ≤ 140737488355328

/-- The number of the first element that holds, or -1. -/
def idxI {α : Type} (p : α → Bool) : List α → Int → Int
  | [], _ => -1
  | x :: l, i => if p x then i else idxI p l (i + 1)

def num_Fits.fn (a : Int) : Bool := decide (a ≥ -1048576) && decide (a ≤ 1048576)
def lin_Valid.fn (l : api_Lin) : Bool := l.1.all num_Fits.fn && (decide ((l.1.length : Int) ≤ 12) && num_Fits.fn l.2)
def cond_Valid.fn (c : api_Cond) : Bool :=
  if c.1 = 0 ∨ c.1 = 1 then (c.2.1 == 0) && lin_Valid.fn c.2.2
  else if c.1 = 2 then (decide (c.2.1 ≥ 1) && decide (c.2.1 ≤ 512)) && lin_Valid.fn c.2.2 else false
def farkas_asked_1.fn (c : api_Cond) : Bool := !(cond_Valid.fn c)
def farkas_asked_2.fn (c : api_Cond) (n : Int) : Bool := (c.2.2.1.length : Int) != n
def slices_IndexFunc_Sapi_Cond_api_Cond__farkas_asked_1.fn (l : List api_Cond) : Int := idxI farkas_asked_1.fn l 0
def slices_IndexFunc_Sapi_Cond_api_Cond__farkas_asked_2.fn (l : List api_Cond) (n : Int) : Int := idxI (fun c => farkas_asked_2.fn c n) l 0
def slices_ContainsFunc_Sapi_Cond_api_Cond__farkas_asked_1.fn (l : List api_Cond) : Bool := l.any farkas_asked_1.fn
def slices_ContainsFunc_Sapi_Cond_api_Cond__farkas_asked_2.fn (l : List api_Cond) (n : Int) : Bool := l.any fun c => farkas_asked_2.fn c n
def farkas_asked.fn (p : List api_Cond) (n : Int) : Int :=
  if n < 0 ∨ n > 12 then 6 else if (p.length : Int) > 96 then 3 else if p.any farkas_asked_1.fn then 1 else if p.any (fun c => farkas_asked_2.fn c n) then 2 else 0

/-- The sum of products. -/
def dotI : List Int → List Int → Int
  | a :: l, b :: m => a * b + dotI l m
  | _, _ => 0
def sgn (x : Int) : Int := if x < 0 then -1 else if 0 < x then 1 else 0

def farkas_Check_1.fn (c : api_Cond) (v : Int) : Int := gI c.2.2.1 v
abbrev farkas_Check_1.pre (c : api_Cond) (v : Int) : Prop := 0 ≤ v ∧ v < (c.2.2.1.length : Int)
def farkas_Check_2.fn (c : api_Cond) : Int := c.2.2.2
/-- Conditions that the sums take: few, their numbers small; the weights are numbers of 64 bits. -/
abbrev i64 (x : Int) : Prop := -9223372036854775808 ≤ x ∧ x ≤ 9223372036854775807
abbrev farkas_total__farkas_Check_1.pre (p : List api_Cond) (w : List Int) (v : Int) : Prop :=
  p.length ≤ 96 ∧ w.length = p.length ∧ (∀ x ∈ w, i64 x) ∧ ∀ c ∈ p, (0 ≤ v ∧ v < (c.2.2.1.length : Int)) ∧ num_Fits.fn (gI c.2.2.1 v) = true
def farkas_total__farkas_Check_1.fn (p : List api_Cond) (w : List Int) (v : Int) : Int := sgn (dotI (p.map fun c => gI c.2.2.1 v) w)
abbrev farkas_total__farkas_Check_2.pre (p : List api_Cond) (w : List Int) : Prop :=
  p.length ≤ 96 ∧ w.length = p.length ∧ (∀ x ∈ w, i64 x) ∧ ∀ c ∈ p, num_Fits.fn c.2.2.2 = true
def farkas_total__farkas_Check_2.fn (p : List api_Cond) (w : List Int) : Int := sgn (dotI (p.map fun c => c.2.2.2) w)

/-- Which weights are refused. -/
def badW (c : api_Cond) (w : Int) : Bool := ((c.1 == 0) && decide (w < 0)) || ((c.1 == 2) && (w != 0))
def badWs : List api_Cond → List Int → Bool
  | c :: p, w :: ws => badW c w || badWs p ws
  | _, _ => false
def farkas_Check.fn (p : List api_Cond) (n : Int) (w : List Int) : Bool × Int :=
  if farkas_asked.fn p n ≠ 0 then (false, farkas_asked.fn p n) else if (w.length : Int) ≠ p.length then (false, 2) else if badWs p w then (false, 0)
  else if (List.range n.toNat).any (fun v => dotI (p.map fun c => gI c.2.2.1 (v : Int)) w != 0) then (false, 0) else (decide (dotI (p.map fun c => c.2.2.2) w < 0), 0)
abbrev farkas_Check.pre (p : List api_Cond) (n : Int) (w : List Int) : Prop := ∀ x ∈ w, i64 x

def ref01_Coord.fn (a : Int) : Bool := decide (a ≥ -4294967296) && decide (a ≤ 4294967296)
def ref02_Point.fn (x : List Int) : Bool := x.all ref01_Coord.fn
abbrev ref02_Value.pre (l : api_Lin) (x : List Int) : Prop := lin_Valid.fn l = true ∧ x.length = l.1.length ∧ ref02_Point.fn x = true
def ref02_Value.fn (l : api_Lin) (x : List Int) : Int := l.2 + dotI l.1 x
abbrev ref03_Is.pre (c : api_Cond) (x : List Int) : Prop := cond_Valid.fn c = true ∧ x.length = c.2.2.1.length ∧ ref02_Point.fn x = true
def ref03_Is.fn (c : api_Cond) (x : List Int) : Bool :=
  if c.1 = 0 then decide (ref02_Value.fn c.2.2 x ≥ 0) else if c.1 = 1 then ref02_Value.fn c.2.2 x == 0 else Int.tmod (ref02_Value.fn c.2.2 x) c.2.1 == 0
abbrev ref04_In.pre (p : List api_Cond) (x : List Int) : Prop := ∀ c ∈ p, ref03_Is.pre c x
def ref04_In.fn (p : List api_Cond) (x : List Int) : Bool := p.all fun c => ref03_Is.fn c x

/-! ## Rows (package farkas) -/
/-- All numbers of a list are at most B in size. -/
abbrev inB (B : Int) (l : List Int) : Prop := ∀ x ∈ l, -B ≤ x ∧ x ≤ B
def farkas_vector_int_by.fn (v : List Int) (g : Int) : List Int := v.map fun x => Int.tdiv x g
abbrev farkas_vector_int_by.pre (v : List Int) (g : Int) : Prop := 1 ≤ g ∧ v.length ≤ 1048576 ∧ inB 4611686018427387904 v
def num_common.fn (a b : Int) : Int := (Nat.gcd a.natAbs b.natAbs : Nat)
abbrev num_common.pre (a b : Int) : Prop := 0 ≤ a ∧ 0 ≤ b
def num_size.fn (a : Int) : Int := (a.natAbs : Nat)
abbrev num_size.pre (a : Int) : Prop := i64 a
def num_Gcd_1.fn (a b : Int) : Int := (Nat.gcd a.natAbs b.natAbs : Nat)
abbrev num_Gcd_1.pre (a b : Int) : Prop := 0 ≤ a ∧ i64 b
def num_fold_uint64__num_Gcd_1.fn (l : List Int) (a : Int) : Int := l.foldl num_Gcd_1.fn a
abbrev num_fold_uint64__num_Gcd_1.pre (l : List Int) (a : Int) : Prop := 0 ≤ a ∧ ∀ x ∈ l, i64 x
def gcdL (l : List Int) : Int := l.foldl num_Gcd_1.fn 0
def num_Gcd.fn (l : List Int) : Int × Int := if gcdL l > 9223372036854775807 then (0, 3) else (gcdL l, 0)
abbrev num_Gcd.pre (l : List Int) : Prop := ∀ x ∈ l, i64 x
def farkas_row_reduced.fn (r : farkas_row) : farkas_row := if gcdL r.2 > 1 then (r.1, farkas_vector_int_by.fn r.2 (gcdL r.2)) else r
abbrev farkas_row_reduced.pre (r : farkas_row) : Prop := r.2.length ≤ 1048576 ∧ inB 4611686018427387904 r.2
def slices_Equal_farkas_vector_int_int.fn (a b : List Int) : Bool := a == b
def farkas_table_kept_1.fn (o : farkas_row) (eq : Bool) (v : List Int) (n : Int) (rows : List farkas_row) : Bool :=
  (o.1 == eq) && (o.2.take (Int.toNat (n + 1)) == v.take (Int.toNat (n + 1)))
abbrev farkas_table_kept_1.pre (o : farkas_row) (eq : Bool) (v : List Int) (n : Int) (rows : List farkas_row) : Prop :=
  0 ≤ n ∧ n ≤ 1048576 ∧ n + 1 ≤ (o.2.length : Int) ∧ n + 1 ≤ (v.length : Int)
abbrev slices_IndexFunc_Sfarkas_row_farkas_row__farkas_table_kept_1.pre (l : List farkas_row) (eq : Bool) (v : List Int) (n : Int) (rows : List farkas_row) : Prop := ∀ o ∈ l, farkas_table_kept_1.pre o eq v n rows
def slices_IndexFunc_Sfarkas_row_farkas_row__farkas_table_kept_1.fn (l : List farkas_row) (eq : Bool) (v : List Int) (n : Int) (rows : List farkas_row) : Int := idxI (fun o => farkas_table_kept_1.fn o eq v n rows) l 0
abbrev slices_ContainsFunc_Sfarkas_row_farkas_row__farkas_table_kept_1.pre (l : List farkas_row) (eq : Bool) (v : List Int) (n : Int) (rows : List farkas_row) : Prop := ∀ o ∈ l, farkas_table_kept_1.pre o eq v n rows
def slices_ContainsFunc_Sfarkas_row_farkas_row__farkas_table_kept_1.fn (l : List farkas_row) (eq : Bool) (v : List Int) (n : Int) (rows : List farkas_row) : Bool := l.any fun o => farkas_table_kept_1.fn o eq v n rows
def farkas_table_kept_2.fn (x : Int) : Bool := decide (x < -1073741824) || decide (x > 1073741824)
def slices_IndexFunc_farkas_vector_int_int__farkas_table_kept_2.fn (l : List Int) : Int := idxI farkas_table_kept_2.fn l 0
def slices_ContainsFunc_farkas_vector_int_int__farkas_table_kept_2.fn (l : List Int) : Bool := l.any farkas_table_kept_2.fn
/-- A row more, if it is not there. -/
def addRow (n : Int) (out : List farkas_row) (r : farkas_row) : List farkas_row :=
  if slices_ContainsFunc_Sfarkas_row_farkas_row__farkas_table_kept_1.fn out r.1 r.2 n [] then out else out ++ [r]
def dedupR (n : Int) (l : List farkas_row) : List farkas_row := l.foldl (fun out r => addRow n out (farkas_row_reduced.fn r)) []
def farkas_table_kept.fn (t : farkas_table) (l : List farkas_row) : farkas_table × Int :=
  if ((dedupR t.1 l).length : Int) > 400 then ((0, []), 3)
  else if (dedupR t.1 l).any (fun r => r.2.any farkas_table_kept_2.fn) then ((0, []), 3) else ((t.1, dedupR t.1 l), 0)
/-- Rows of L numbers of at most B. -/
abbrev rowsB (B : Int) (L : Nat) (l : List farkas_row) : Prop := ∀ r ∈ l, r.2.length = L ∧ inB B r.2
abbrev farkas_table_kept.pre (t : farkas_table) (l : List farkas_row) : Prop :=
  0 ≤ t.1 ∧ l.length ≤ 1048576 ∧ ∃ L : Nat, t.1 + 1 ≤ (L : Int) ∧ L ≤ 1048576 ∧ rowsB 4611686018427387904 L l
def absI (x : Int) : Int := if -x > x then -x else x
/-- The index of the first Eq row with the least coefficient. -/
def solveI : List (Bool × Int) → Int → Int → Int → Int
  | [], _, best, _ => best
  | r :: l, i, best, a =>
    if (r.1 && (r.2 != 0)) && (decide (best < 0) || decide (absI r.2 < a)) then solveI l (i + 1) i (absI r.2) else solveI l (i + 1) best a
def farkas_table_solver.fn (t : farkas_table) (v : Int) : Int := solveI (t.2.map fun r => (r.1, gI r.2 v)) 0 (-1) 0
abbrev farkas_table_solver.pre (t : farkas_table) (v : Int) : Prop := 0 ≤ v ∧ ∃ L : Nat, v < (L : Int) ∧ rowsB 1073741824 L t.2
def farkas_vector_int_sum.fn (x : List Int) (a b : Int) (y : List Int) : List Int := List.zipWith (fun p q => a * p + b * q) x y
abbrev farkas_vector_int_sum.pre (x : List Int) (a b : Int) (y : List Int) : Prop :=
  x.length = y.length ∧ x.length ≤ 1048576 ∧ inB 1073741824 x ∧ inB 1073741824 y ∧ (-1073741824 ≤ a ∧ a ≤ 1073741824) ∧ (-1073741824 ≤ b ∧ b ≤ 1073741824)
/-- Lists out of the elements of a list and their places, one after the other. -/
def gather {α β : Type} (f : Nat → α → List β) : List α → Nat → List β
  | [], _ => []
  | x :: l, i => f i x ++ gather f l (i + 1)
def wEq (v k : Int) (e : farkas_row) (i : Nat) (r : farkas_row) : List farkas_row :=
  if (i : Int) = k then [] else if gI r.2 v = 0 then [r]
  else [(r.1, farkas_vector_int_sum.fn r.2 (if gI e.2 v < 0 then -(gI e.2 v) else gI e.2 v) (-(if gI e.2 v < 0 then (-1 : Int) else 1) * gI r.2 v) e.2)]
def wPair (v : Int) (l u : farkas_row) : List farkas_row :=
  if gI l.2 v > 0 ∧ gI u.2 v < 0 then [(false, farkas_vector_int_sum.fn l.2 (-(gI u.2 v)) (gI l.2 v) u.2)] else []
def wIneq (v : Int) (l : List farkas_row) : List farkas_row := (l.filter fun r => gI r.2 v == 0) ++ l.flatMap fun x => l.flatMap fun y => wPair v x y
def farkas_table_without.fn (t : farkas_table) (v : Int) : farkas_table × Int :=
  if farkas_table_solver.fn t v ≥ 0 then farkas_table_kept.fn t (gather (wEq v (farkas_table_solver.fn t v) (t.2.getD (farkas_table_solver.fn t v).toNat d_farkas_row)) t.2 0)
  else farkas_table_kept.fn t (wIneq v t.2)
/-- A table whose rows have L numbers. -/
abbrev tabB (L : Nat) (t : farkas_table) : Prop := (0 ≤ t.1 ∧ t.1 + 1 ≤ (L : Int) ∧ L ≤ 1048576) ∧ t.2.length ≤ 400 ∧ rowsB 1073741824 L t.2
abbrev farkas_table_without.pre (t : farkas_table) (v : Int) : Prop := 0 ≤ v ∧ v < t.1 ∧ ∃ L : Nat, tabB L t
/-- The row of a condition. -/
def firstRow (n m : Nat) (i : Nat) (c : api_Cond) : List farkas_row :=
  if c.1 = 2 then [] else [(c.1 == 1, c.2.2.1 ++ c.2.2.2 :: (List.replicate m 0).set i 1)]
def farkas_first.fn (p : List api_Cond) (n : Int) : farkas_table := (n, gather (firstRow n.toNat p.length) p 0)
abbrev farkas_first.pre (p : List api_Cond) (n : Int) : Prop := farkas_asked.fn p n = 0
def elimAll (t : farkas_table) : Nat → List farkas_table × Int
  | 0 => ([t], 0)
  | v + 1 => if (farkas_table_without.fn t v).2 ≠ 0 then ([], (farkas_table_without.fn t v).2)
    else if (elimAll (farkas_table_without.fn t v).1 v).2 ≠ 0 then ([], (elimAll (farkas_table_without.fn t v).1 v).2)
    else ((elimAll (farkas_table_without.fn t v).1 v).1 ++ [t], 0)
def farkas_eliminated.fn (p : List api_Cond) (n : Int) : List farkas_table × Int := elimAll (farkas_first.fn p n) n.toNat
abbrev farkas_eliminated.pre (p : List api_Cond) (n : Int) : Prop := farkas_asked.fn p n = 0
def refuteL (n : Int) : List farkas_row → List Int × Bool
  | [] => ([], false)
  | r :: l => if gI r.2 n ≥ 0 ∧ (r.1 = false ∨ gI r.2 n = 0) then refuteL n l
    else (if gI r.2 n > 0 then (r.2.drop (Int.toNat (n + 1))).map (fun x => -x) else r.2.drop (Int.toNat (n + 1)), true)
def farkas_table_refuted.fn (t : farkas_table) : List Int × Bool := refuteL t.1 t.2
abbrev farkas_table_refuted.pre (t : farkas_table) : Prop := ∃ L : Nat, tabB L t
def farkas_Prove.fn (p : List api_Cond) (n : Int) : List Int × Int :=
  if farkas_asked.fn p n ≠ 0 then ([], farkas_asked.fn p n)
  else if (farkas_eliminated.fn p n).2 ≠ 0 then ([], (farkas_eliminated.fn p n).2)
  else if (farkas_table_refuted.fn ((farkas_eliminated.fn p n).1.getD 0 d_farkas_table)).2 then ((farkas_table_refuted.fn ((farkas_eliminated.fn p n).1.getD 0 d_farkas_table)).1, 0) else ([], 5)

/-! ## Rational points (package farkas) -/
def farkas_size.fn (a : Int) : Int := (a.natAbs : Nat)
abbrev farkas_size.pre (a : Int) : Prop := i64 a
def math_bits_Mul64.fn (a b : Int) : Int × Int := (a * b / 18446744073709551616, a * b % 18446744073709551616)
abbrev math_bits_Mul64.pre (a b : Int) : Prop := (0 ≤ a ∧ a < 18446744073709551616) ∧ 0 ≤ b ∧ b < 18446744073709551616
def farkas_fraction_less.fn (a b : farkas_fraction) : Bool := decide (a.1 * b.2 < b.1 * a.2)
abbrev farkas_fraction_less.pre (a b : farkas_fraction) : Prop := (i64 a.1 ∧ i64 b.1) ∧ (0 < a.2 ∧ a.2 ≤ 9223372036854775807) ∧ 0 < b.2 ∧ b.2 ≤ 9223372036854775807
def farkas_point_bound.fn (p : farkas_point) (r : farkas_row) (n : Int) : farkas_fraction :=
  if gI r.2 p.1.length < 0 then (gI r.2 n * p.2 + dotI r.2 p.1, -(gI r.2 p.1.length)) else (-(gI r.2 n * p.2 + dotI r.2 p.1), gI r.2 p.1.length)
/-- A point as it may stand between two variables. -/
abbrev ptB (p : farkas_point) : Prop := p.1.length ≤ 12 ∧ inB 268435456 p.1 ∧ 1 ≤ p.2 ∧ p.2 ≤ 268435456
abbrev farkas_point_bound.pre (p : farkas_point) (r : farkas_row) (n : Int) : Prop := ptB p ∧ (0 ≤ n ∧ n < (r.2.length : Int)) ∧ p.1.length < r.2.length ∧ inB 1073741824 r.2
def valueL (p : farkas_point) (n : Int) : List farkas_row → Option farkas_fraction → Option farkas_fraction → farkas_fraction
  | [], some f, _ => f
  | [], none, some f => f
  | [], none, none => (0, 1)
  | r :: l, low, high =>
    if gI r.2 p.1.length = 0 then valueL p n l low high
    else if r.1 then farkas_point_bound.fn p r n
    else if gI r.2 p.1.length > 0 then
      valueL p n l (match low with | none => some (farkas_point_bound.fn p r n) | some f => if farkas_fraction_less.fn f (farkas_point_bound.fn p r n) then some (farkas_point_bound.fn p r n) else some f) high
    else valueL p n l low (match high with | none => some (farkas_point_bound.fn p r n) | some f => if farkas_fraction_less.fn (farkas_point_bound.fn p r n) f then some (farkas_point_bound.fn p r n) else some f)
def farkas_point_value.fn (p : farkas_point) (t : farkas_table) : farkas_fraction := valueL p t.1 t.2 none none
abbrev farkas_point_value.pre (p : farkas_point) (t : farkas_table) : Prop := ptB p ∧ ∃ L : Nat, tabB L t ∧ (p.1.length : Int) < t.1
/-- A fraction times 1 over a number, in lowest terms. -/
def lowN (f : farkas_fraction) (e : Int) : Int := Int.tdiv (Int.tdiv f.1 (gcdL [f.1, f.2])) (gcdL [Int.tdiv f.1 (gcdL [f.1, f.2]), e])
def lowD (f : farkas_fraction) (e : Int) : Int := Int.tdiv e (gcdL [Int.tdiv f.1 (gcdL [f.1, f.2]), e]) * Int.tdiv f.2 (gcdL [f.1, f.2])
def lcmI (a b : Int) : Int := Int.tdiv b (gcdL [a, b]) * a
def bigI (x : Int) : Bool := decide (x > 268435456) || decide (x < -268435456)
def farkas_point_with.fn (p : farkas_point) (f : farkas_fraction) : farkas_point × Int :=
  if (decide (Int.tdiv f.2 (gcdL [f.1, f.2]) > 268435456) || decide (lowD f p.2 > 268435456)) then (([], 0), 3)
  else if lcmI (lowD f p.2) p.2 > 268435456 then (([], 0), 3)
  else if bigI (lowN f p.2) then (([], 0), 3)
  else if (p.1.map (fun x => x * Int.tdiv (lcmI (lowD f p.2) p.2) p.2) ++ [lowN f p.2 * Int.tdiv (lcmI (lowD f p.2) p.2) (lowD f p.2)]).any bigI then (([], 0), 3)
  else ((p.1.map (fun x => x * Int.tdiv (lcmI (lowD f p.2) p.2) p.2) ++ [lowN f p.2 * Int.tdiv (lcmI (lowD f p.2) p.2) (lowD f p.2)], lcmI (lowD f p.2) p.2), 0)
abbrev farkas_point_with.pre (p : farkas_point) (f : farkas_fraction) : Prop := ptB p ∧ (-4611686018427387904 ≤ f.1 ∧ f.1 ≤ 4611686018427387904) ∧ 1 ≤ f.2 ∧ f.2 ≤ 1073741824
def innerL (ts : List farkas_table) : Nat → Nat → farkas_point → List Int × Int × Int
  | 0, _, a => (a.1, a.2, 0)
  | m + 1, v, a =>
    if (farkas_point_with.fn a (farkas_point_value.fn a (ts.getD (v + 1) d_farkas_table))).2 ≠ 0 then ([], 0, (farkas_point_with.fn a (farkas_point_value.fn a (ts.getD (v + 1) d_farkas_table))).2)
    else innerL ts m (v + 1) (farkas_point_with.fn a (farkas_point_value.fn a (ts.getD (v + 1) d_farkas_table))).1
def farkas_Inner.fn (p : List api_Cond) (n : Int) : List Int × Int × Int :=
  if farkas_asked.fn p n ≠ 0 then ([], 0, farkas_asked.fn p n)
  else if (farkas_eliminated.fn p n).2 ≠ 0 then ([], 0, (farkas_eliminated.fn p n).2)
  else if (farkas_table_refuted.fn ((farkas_eliminated.fn p n).1.getD 0 d_farkas_table)).2 then ([], 0, 5)
  else innerL (farkas_eliminated.fn p n).1 n.toNat 0 ([], 1)

/-! ## Whole numbers of any size (the document's answer) -/
def ref01_Fits.fn (a : Int) : Bool := num_Fits.fn a
def ref02_Valid.fn (l : api_Lin) : Bool := lin_Valid.fn l
def ref03_Valid.fn (c : api_Cond) : Bool := cond_Valid.fn c
def ref09_asked.fn (p : List api_Cond) (n : Int) : Int := farkas_asked.fn p n
def ref09_trim.fn (d : List Int) : List Int := dz (vl d)
abbrev ref09_trim.pre (d : List Int) : Prop := dig d ∧ d.length ≤ 4611686018427387904
def ref09_Of.fn (n : Int) : ref09_Int := (decide (n < 0), dg n.natAbs)
abbrev ref09_Of.pre (n : Int) : Prop := i64 n
def ref09_Int_Sign.fn (x : ref09_Int) : Int := if x.2 = [] then 0 else if x.1 = true then -1 else 1
def ref09_order.fn (a b : List Int) : Int := sgn (vl a - vl b)
abbrev ref09_order.pre (a b : List Int) : Prop := can a ∧ can b
def ref09_plus.fn (a b : List Int) : List Int := dz (vl a + vl b)
abbrev ref09_plus.pre (a b : List Int) : Prop := (dig a ∧ dig b) ∧ a.length ≤ 1099511627776 ∧ b.length ≤ 1099511627776
def ref09_minus.fn (a b : List Int) : List Int := dz (vl a - vl b)
abbrev ref09_minus.pre (a b : List Int) : Prop := (dig a ∧ dig b) ∧ a.length ≤ 1099511627776 ∧ b.length ≤ a.length ∧ vl b ≤ vl a
abbrev ref09_Int_Add.pre (x y : ref09_Int) : Prop := (can x.2 ∧ can y.2) ∧ x.2.length ≤ 1099511627776 ∧ y.2.length ≤ 1099511627776
def ref09_Int_Add.fn (x y : ref09_Int) : ref09_Int :=
  if x.1 = y.1 then (x.1, dz (vl x.2 + vl y.2)) else if vl x.2 ≥ vl y.2 then (x.1, dz (vl x.2 - vl y.2)) else (y.1, dz (vl y.2 - vl x.2))
abbrev ref09_Int_Mul.pre (x y : ref09_Int) : Prop := dig x.2 ∧ dig y.2 ∧ x.2.length ≤ 1073741824 ∧ y.2.length ≤ 1073741824
def ref09_Int_Mul.fn (x y : ref09_Int) : ref09_Int := (x.1 != y.1, dz (vl x.2 * vl y.2))
abbrev ref09_Check.pre (p : List api_Cond) (n : Int) (w : List Int) : Prop := ∀ x ∈ w, i64 x
def ref09_Check.fn (p : List api_Cond) (n : Int) (w : List Int) : Bool × Int := farkas_Check.fn p n w
/-! ## Rows of the document's answer -/
/-- A row as the code keeps it, and back. -/
def toF (r : ref09_Row) : farkas_row := (r.2.1, r.1.1 ++ r.1.2 :: r.2.2)
def ofF (n : Nat) (r : farkas_row) : ref09_Row := ((r.2.take n, r.2.getD n 0), r.1, r.2.drop (n + 1))
def ref09_Row_numbers.fn (r : ref09_Row) : List Int := r.1.1 ++ r.1.2 :: r.2.2
abbrev ref09_Row_numbers.pre (r : ref09_Row) : Prop := (toF r).2.length ≤ 1048576
def ref01_size.fn (a : Int) : Int := (a.natAbs : Nat)
abbrev ref01_size.pre (a : Int) : Prop := i64 a
def ref01_Gcd.fn (l : List Int) : Int × Int := num_Gcd.fn l
abbrev ref01_Gcd.pre (l : List Int) : Prop := ∀ x ∈ l, i64 x
def ref09_mix.fn (a : Int) (r : ref09_Row) (b : Int) (s : ref09_Row) : ref09_Row := ofF r.1.1.length (farkas_row_reduced.fn (r.2.1, farkas_vector_int_sum.fn (toF r).2 a b (toF s).2))
abbrev ref09_mix.pre (a : Int) (r : ref09_Row) (b : Int) (s : ref09_Row) : Prop := farkas_vector_int_sum.pre (toF r).2 a b (toF s).2
def ref09_same.fn (a b : ref09_Row) : Bool := ((a.2.1 == b.2.1) && (a.1.2 == b.1.2)) && (a.1.1 == b.1.1)
abbrev ref09_same.pre (a b : ref09_Row) : Prop := a.1.1.length = b.1.1.length
/-- A row of N coefficients and L numbers of at most 2^30, which have nothing in common. -/
abbrev rowR (N L : Nat) (r : ref09_Row) : Prop := (r.1.1.length = N ∧ (toF r).2.length = L) ∧ inB 1073741824 (toF r).2 ∧ farkas_row_reduced.fn (toF r) = toF r
abbrev ref09_Eliminate.pre (rows : List ref09_Row) (v : Int) : Prop := 0 ≤ v ∧ ∃ N L : Nat, (v < (N : Int) ∧ N + 1 ≤ L ∧ L ≤ 1048576) ∧ rows.length ≤ 400 ∧ ∀ r ∈ rows, rowR N L r
/-- How many coefficients rows have. -/
def nOf (rows : List ref09_Row) : Nat := match rows with | [] => 0 | r :: _ => r.1.1.length
def ref09_Eliminate.fn (rows : List ref09_Row) (v : Int) : List ref09_Row × Int :=
  ((farkas_table_without.fn (nOf rows, rows.map toF) v).1.2.map (ofF (nOf rows)), (farkas_table_without.fn (nOf rows, rows.map toF) v).2)
def refuteR : List ref09_Row → List Int × Bool
  | [] => ([], false)
  | r :: l => if r.1.2 < 0 then (r.2.2, true) else if (r.2.1 && decide (r.1.2 > 0)) then (r.2.2.map (fun x => -x), true) else refuteR l
def ref09_refuted.fn (rows : List ref09_Row) : List Int × Bool := refuteR rows
abbrev ref09_refuted.pre (rows : List ref09_Row) : Prop := ∀ r ∈ rows, r.2.2.length ≤ 1048576 ∧ inB 1073741824 r.2.2
def ref09_stack.fn (p : List api_Cond) (n : Int) : List (List ref09_Row) × List ref09_Row × Int :=
  if (farkas_eliminated.fn p n).2 ≠ 0 then ([], [], (farkas_eliminated.fn p n).2)
  else (((farkas_eliminated.fn p n).1.drop 1).map (fun t => t.2.map (ofF n.toNat)), ((farkas_eliminated.fn p n).1.getD 0 d_farkas_table).2.map (ofF n.toNat), 0)
abbrev ref09_stack.pre (p : List api_Cond) (n : Int) : Prop := farkas_asked.fn p n = 0
def ref09_Prove.fn (p : List api_Cond) (n : Int) : List Int × Int := farkas_Prove.fn p n

/-! ## Sets -/
def set_over.fn (p : List api_Cond) (n : Int) : Bool := p.all fun c => cond_Valid.fn c && ((c.2.2.1.length : Int) == n)
def set_Valid.fn (s : api_Set) : Bool :=
  !((decide (s.1 < 0) || decide (s.1 > 12)) || decide ((s.2.length : Int) > 400)) && s.2.all fun p => !(decide ((p.length : Int) > 96)) && set_over.fn p s.1
def ref04_Valid.fn (s : api_Set) : Bool := set_Valid.fn s
def emptyL (n : Int) : List (List api_Cond) → List (List Int) × Int
  | [] => ([], 0)
  | p :: l => if (farkas_Prove.fn p n).2 ≠ 0 then ([], (farkas_Prove.fn p n).2) else if (emptyL n l).2 ≠ 0 then ([], (emptyL n l).2) else ((farkas_Prove.fn p n).1 :: (emptyL n l).1, 0)
def farkas_Empty.fn (s : api_Set) : List (List Int) × Int := if set_Valid.fn s then emptyL s.1 s.2 else ([], 1)
def ref09_Empty.fn (s : api_Set) : List (List Int) × Int := farkas_Empty.fn s
/-- How many pieces sets have. -/
def piecesOf (l : List api_Set) : Nat := (l.map fun s => s.2.length).sum
def law04_Few.fn (a b : Int) (l : List api_Set) : Bool := (l.all fun s => s.2.all fun p => decide ((p.length : Int) ≤ b)) && decide ((piecesOf l : Int) ≤ a)
abbrev law04_Few.pre (a b : Int) (l : List api_Set) : Prop := piecesOf l ≤ 9223372036854775807
def cmpL : List Int → List Int → Int
  | a :: l, b :: m => if a < b then -1 else if a > b then 1 else cmpL l m
  | _, _ => 0
def ref02_Order.fn (a b : List Int) : Int := cmpL a b
abbrev ref02_Order.pre (a b : List Int) : Prop := a.length ≤ b.length
def law09_list.fn (a b : List Int) : Bool := ((a.length : Int) == (b.length : Int)) && (cmpL a b == 0)
abbrev law09_FarkasEmpty.pre (s : api_Set) : Prop := s.2.length ≤ 9223372036854775807
def law09_FarkasEmpty.fn (s : api_Set) : Bool := true
def law09_FarkasReduced.fn (p : List api_Cond) (n : Int) : Bool := true
def law09_FarkasOne.fn (p : List api_Cond) (n : Int) : Bool := true
abbrev law09_FarkasChecks.pre (p : List api_Cond) (n : Int) (w : List Int) : Prop := ∀ y ∈ w, i64 y
def law09_FarkasChecks.fn (p : List api_Cond) (n : Int) (w : List Int) : Bool := true

abbrev law09_FarkasRefuted.pre (p : List api_Cond) (n : Int) (w x : List Int) : Prop := ∀ y ∈ w, i64 y
def law09_FarkasRefuted.fn (p : List api_Cond) (n : Int) (w x : List Int) : Bool := true
end Go.Proofs.Ytlncingakpelbaa
