/- Part of a proof that a law of the program holds for every input: what the functions answer, in plain Lean. No conditions. -/
import Derived.Test.YtlncingakpelbaaZ
namespace Go.Proofs.Ytlncingakpelbaa
open Go
set_option linter.unusedVariables false

/-! ## What the functions answer (by hand) -/
def slices_Clone_Sint_int.fn (a1 : List Int) : List Int := a1
abbrev slices_Clone_Sint_int.pre (a1 : List Int) : Prop := a1.length * 8 ≤ 140737488355328

/-- The number of the first element that holds, or -1. -/
def idxI {α : Type} (p : α → Bool) : List α → Int → Int
  | [], _ => -1
  | x :: l, i => if p x then i else idxI p l (i + 1)

def num_Fits.fn (a : Int) : Bool := decide (a ≥ -1048576) && decide (a ≤ 1048576)
def lin_Valid.fn (l : api_Lin) : Bool := l.1.all num_Fits.fn && (decide ((l.1.length : Int) ≤ 12) && num_Fits.fn l.2)
def cond_Valid.fn (c : api_Cond) : Bool :=
  if c.1 = 0 ∨ c.1 = 1 then (c.2.1 == 0) && lin_Valid.fn c.2.2
  else if c.1 = 2 then (decide (c.2.1 ≥ 1) && decide (c.2.1 ≤ 512)) && lin_Valid.fn c.2.2 else false
def farkas_asked_1.fn (c : api_Cond) : Bool := !(cond_Valid.fn c)
def farkas_asked_2.fn (c : api_Cond) (n : Int) : Bool := (c.2.2.1.length : Int) != n
def slices_IndexFunc_Sapi_Cond_api_Cond__farkas_asked_1.fn (l : List api_Cond) : Int := idxI farkas_asked_1.fn l 0
def slices_IndexFunc_Sapi_Cond_api_Cond__farkas_asked_2.fn (l : List api_Cond) (n : Int) : Int := idxI (fun c => farkas_asked_2.fn c n) l 0
def slices_ContainsFunc_Sapi_Cond_api_Cond__farkas_asked_1.fn (l : List api_Cond) : Bool := l.any farkas_asked_1.fn
def slices_ContainsFunc_Sapi_Cond_api_Cond__farkas_asked_2.fn (l : List api_Cond) (n : Int) : Bool := l.any fun c => farkas_asked_2.fn c n
def farkas_asked.fn (p : List api_Cond) (n : Int) : Int :=
  if n < 0 ∨ n > 12 then 6 else if (p.length : Int) > 96 then 3 else if p.any farkas_asked_1.fn then 1 else if p.any (fun c => farkas_asked_2.fn c n) then 2 else 0

/-- The sum of products. -/
def dotI : List Int → List Int → Int
  | a :: l, b :: m => a * b + dotI l m
  | _, _ => 0
def sgn (x : Int) : Int := if x < 0 then -1 else if 0 < x then 1 else 0

def farkas_Check_1.fn (c : api_Cond) (v : Int) : Int := gI c.2.2.1 v
abbrev farkas_Check_1.pre (c : api_Cond) (v : Int) : Prop := 0 ≤ v ∧ v < (c.2.2.1.length : Int)
def farkas_Check_2.fn (c : api_Cond) : Int := c.2.2.2
/-- Conditions that the sums take: few, their numbers small; the weights are numbers of 64 bits. -/
abbrev i64 (x : Int) : Prop := -9223372036854775808 ≤ x ∧ x ≤ 9223372036854775807
abbrev farkas_total__farkas_Check_1.pre (p : List api_Cond) (w : List Int) (v : Int) : Prop :=
  p.length ≤ 96 ∧ w.length = p.length ∧ (∀ x ∈ w, i64 x) ∧ ∀ c ∈ p, (0 ≤ v ∧ v < (c.2.2.1.length : Int)) ∧ num_Fits.fn (gI c.2.2.1 v) = true
def farkas_total__farkas_Check_1.fn (p : List api_Cond) (w : List Int) (v : Int) : Int := sgn (dotI (p.map fun c => gI c.2.2.1 v) w)
abbrev farkas_total__farkas_Check_2.pre (p : List api_Cond) (w : List Int) : Prop :=
  p.length ≤ 96 ∧ w.length = p.length ∧ (∀ x ∈ w, i64 x) ∧ ∀ c ∈ p, num_Fits.fn c.2.2.2 = true
def farkas_total__farkas_Check_2.fn (p : List api_Cond) (w : List Int) : Int := sgn (dotI (p.map fun c => c.2.2.2) w)

/-- Which weights are refused. -/
def badW (c : api_Cond) (w : Int) : Bool := ((c.1 == 0) && decide (w < 0)) || ((c.1 == 2) && (w != 0))
def badWs : List api_Cond → List Int → Bool
  | c :: p, w :: ws => badW c w || badWs p ws
  | _, _ => false
def farkas_Check.fn (p : List api_Cond) (n : Int) (w : List Int) : Bool × Int :=
  if farkas_asked.fn p n ≠ 0 then (false, farkas_asked.fn p n) else if (w.length : Int) ≠ p.length then (false, 2) else if badWs p w then (false, 0)
  else if (List.range n.toNat).any (fun v => dotI (p.map fun c => gI c.2.2.1 (v : Int)) w != 0) then (false, 0) else (decide (dotI (p.map fun c => c.2.2.2) w < 0), 0)
abbrev farkas_Check.pre (p : List api_Cond) (n : Int) (w : List Int) : Prop := ∀ x ∈ w, i64 x

def ref01_Coord.fn (a : Int) : Bool := decide (a ≥ -4294967296) && decide (a ≤ 4294967296)
def ref02_Point.fn (x : List Int) : Bool := x.all ref01_Coord.fn
abbrev ref02_Value.pre (l : api_Lin) (x : List Int) : Prop := lin_Valid.fn l = true ∧ x.length = l.1.length ∧ ref02_Point.fn x = true
def ref02_Value.fn (l : api_Lin) (x : List Int) : Int := l.2 + dotI l.1 x
abbrev ref03_Is.pre (c : api_Cond) (x : List Int) : Prop := cond_Valid.fn c = true ∧ x.length = c.2.2.1.length ∧ ref02_Point.fn x = true
def ref03_Is.fn (c : api_Cond) (x : List Int) : Bool :=
  if c.1 = 0 then decide (ref02_Value.fn c.2.2 x ≥ 0) else if c.1 = 1 then ref02_Value.fn c.2.2 x == 0 else Int.tmod (ref02_Value.fn c.2.2 x) c.2.1 == 0
abbrev ref04_In.pre (p : List api_Cond) (x : List Int) : Prop := ∀ c ∈ p, ref03_Is.pre c x
def ref04_In.fn (p : List api_Cond) (x : List Int) : Bool := p.all fun c => ref03_Is.fn c x

/-! ## Whole numbers of any size (the document's answer) -/
def ref01_Fits.fn (a : Int) : Bool := num_Fits.fn a
def ref02_Valid.fn (l : api_Lin) : Bool := lin_Valid.fn l
def ref03_Valid.fn (c : api_Cond) : Bool := cond_Valid.fn c
def ref09_asked.fn (p : List api_Cond) (n : Int) : Int := farkas_asked.fn p n
def ref09_trim.fn (d : List Int) : List Int := dz (vl d)
abbrev ref09_trim.pre (d : List Int) : Prop := dig d ∧ d.length ≤ 4611686018427387904
def ref09_Of.fn (n : Int) : ref09_Int := (decide (n < 0), dg n.natAbs)
abbrev ref09_Of.pre (n : Int) : Prop := i64 n
def ref09_Int_Sign.fn (x : ref09_Int) : Int := if x.2 = [] then 0 else if x.1 = true then -1 else 1
def ref09_order.fn (a b : List Int) : Int := sgn (vl a - vl b)
abbrev ref09_order.pre (a b : List Int) : Prop := can a ∧ can b
def ref09_plus.fn (a b : List Int) : List Int := dz (vl a + vl b)
abbrev ref09_plus.pre (a b : List Int) : Prop := (dig a ∧ dig b) ∧ a.length ≤ 1099511627776 ∧ b.length ≤ 1099511627776
def ref09_minus.fn (a b : List Int) : List Int := dz (vl a - vl b)
abbrev ref09_minus.pre (a b : List Int) : Prop := (dig a ∧ dig b) ∧ a.length ≤ 1099511627776 ∧ b.length ≤ a.length ∧ vl b ≤ vl a
abbrev ref09_Int_Add.pre (x y : ref09_Int) : Prop := (can x.2 ∧ can y.2) ∧ x.2.length ≤ 1099511627776 ∧ y.2.length ≤ 1099511627776
def ref09_Int_Add.fn (x y : ref09_Int) : ref09_Int :=
  if x.1 = y.1 then (x.1, dz (vl x.2 + vl y.2)) else if vl x.2 ≥ vl y.2 then (x.1, dz (vl x.2 - vl y.2)) else (y.1, dz (vl y.2 - vl x.2))
abbrev ref09_Int_Mul.pre (x y : ref09_Int) : Prop := dig x.2 ∧ dig y.2 ∧ x.2.length ≤ 1073741824 ∧ y.2.length ≤ 1073741824
def ref09_Int_Mul.fn (x y : ref09_Int) : ref09_Int := (x.1 != y.1, dz (vl x.2 * vl y.2))
abbrev ref09_Check.pre (p : List api_Cond) (n : Int) (w : List Int) : Prop := ∀ x ∈ w, i64 x
def ref09_Check.fn (p : List api_Cond) (n : Int) (w : List Int) : Bool × Int := farkas_Check.fn p n w
abbrev law09_FarkasChecks.pre (p : List api_Cond) (n : Int) (w : List Int) : Prop := ∀ y ∈ w, i64 y
def law09_FarkasChecks.fn (p : List api_Cond) (n : Int) (w : List Int) : Bool := true

abbrev law09_FarkasRefuted.pre (p : List api_Cond) (n : Int) (w x : List Int) : Prop := ∀ y ∈ w, i64 y
def law09_FarkasRefuted.fn (p : List api_Cond) (n : Int) (w x : List Int) : Bool := true
end Go.Proofs.Ytlncingakpelbaa
