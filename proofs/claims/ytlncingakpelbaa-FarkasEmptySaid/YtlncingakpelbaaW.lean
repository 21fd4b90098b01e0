/- Part of a proof that a law of the program holds for every input: printed by a program of this work. No conditions. -/
import Derived.Test.YtlncingakpelbaaE
namespace Go.Proofs.Ytlncingakpelbaa
open Go
set_option linter.unusedVariables false
set_option maxHeartbeats 4000000

def num_Fits.wp (a1 : Int) (Q : Bool → Prop) : Prop :=
  Q ((decide (a1 ≥ (-1048576))) && (decide (a1 ≤ (1048576 : Int))))

def lin_Valid.wp (a1 : api_Lin) (Q : Bool → Prop) : Prop :=
  ∀ (_ : a1.1.length ≤ 9223372036854775807),
  ∃ I4 : Nat → Int → Prop,
  (∃ n, I4 n (0 : Int)) ∧
  ∀ (n4 : Nat) (x2 : Int), I4 n4 x2 →
    ((x2 < (a1.1.length : Int)) →
      ((0 : Int) ≤ x2 ∧ x2 < (a1.1.length : Int)) ∧
      (((num_Fits.fn (gI a1.1 x2)) = false) →
        Q false
      ) ∧ (((num_Fits.fn (gI a1.1 x2)) = true) →
        (-9223372036854775808 ≤ x2 + (1 : Int) ∧ x2 + (1 : Int) ≤ 9223372036854775807) ∧
        ∃ m, m < n4 ∧ I4 m (x2 + (1 : Int))
      )
    ) ∧ ((¬ (x2 < (a1.1.length : Int))) →
      Q ((decide ((a1.1.length : Int) ≤ (12 : Int))) && (num_Fits.fn a1.2))
    )

def cond_Valid.wp (a1 : api_Cond) (Q : Bool → Prop) : Prop :=
  ∃ R2 : Bool → Prop,
  (
    ((a1.1 = (0 : Int)) →
      R2 (a1.1 == (0 : Int))
    ) ∧ ((a1.1 ≠ (0 : Int)) →
      R2 (a1.1 == (1 : Int))
    )
  ) ∧
  ∀ (x1 : Bool), R2 x1 →
    ((x1 = true) →
      Q ((a1.2.1 == (0 : Int)) && (lin_Valid.fn a1.2.2))
    ) ∧ ((x1 = false) →
      ((a1.1 = (2 : Int)) →
        Q (((decide (a1.2.1 ≥ (1 : Int))) && (decide (a1.2.1 ≤ (512 : Int)))) && (lin_Valid.fn a1.2.2))
      ) ∧ ((a1.1 ≠ (2 : Int)) →
        Q false
      )
    )

def farkas_asked_1.wp (a1 : api_Cond) (Q : Bool → Prop) : Prop :=
  Q (!(cond_Valid.fn a1))

def slices_IndexFunc_Sapi_Cond_api_Cond__farkas_asked_1.wp (a1 : (List api_Cond)) (Q : Int → Prop) : Prop :=
  ∀ (_ : a1.length ≤ 9223372036854775807),
  ∃ I4 : Nat → Int → Prop,
  (∃ n, I4 n (0 : Int)) ∧
  ∀ (n4 : Nat) (x2 : Int), I4 n4 x2 →
    ((x2 < (a1.length : Int)) →
      ((0 : Int) ≤ x2 ∧ x2 < (a1.length : Int)) ∧
      (((farkas_asked_1.fn (a1.getD (Int.toNat x2) d_api_Cond)) = true) →
        Q x2
      ) ∧ (((farkas_asked_1.fn (a1.getD (Int.toNat x2) d_api_Cond)) = false) →
        (-9223372036854775808 ≤ x2 + (1 : Int) ∧ x2 + (1 : Int) ≤ 9223372036854775807) ∧
        ∃ m, m < n4 ∧ I4 m (x2 + (1 : Int))
      )
    ) ∧ ((¬ (x2 < (a1.length : Int))) →
      Q (-1)
    )

def slices_ContainsFunc_Sapi_Cond_api_Cond__farkas_asked_1.wp (a1 : (List api_Cond)) (Q : Bool → Prop) : Prop :=
  ∀ (x1 : Int), x1 = (slices_IndexFunc_Sapi_Cond_api_Cond__farkas_asked_1.fn a1) →
  Q (decide (x1 ≥ (0 : Int)))

def farkas_asked_2.wp (a1 : api_Cond) (a2 : Int) (Q : Bool → Prop) : Prop :=
  Q ((a1.2.2.1.length : Int) != a2)

def slices_IndexFunc_Sapi_Cond_api_Cond__farkas_asked_2.wp (a1 : (List api_Cond)) (a2 : Int) (Q : Int → Prop) : Prop :=
  ∀ (_ : a1.length ≤ 9223372036854775807),
  ∃ I4 : Nat → Int → Prop,
  (∃ n, I4 n (0 : Int)) ∧
  ∀ (n4 : Nat) (x2 : Int), I4 n4 x2 →
    ((x2 < (a1.length : Int)) →
      ((0 : Int) ≤ x2 ∧ x2 < (a1.length : Int)) ∧
      (((farkas_asked_2.fn (a1.getD (Int.toNat x2) d_api_Cond) a2) = true) →
        Q x2
      ) ∧ (((farkas_asked_2.fn (a1.getD (Int.toNat x2) d_api_Cond) a2) = false) →
        (-9223372036854775808 ≤ x2 + (1 : Int) ∧ x2 + (1 : Int) ≤ 9223372036854775807) ∧
        ∃ m, m < n4 ∧ I4 m (x2 + (1 : Int))
      )
    ) ∧ ((¬ (x2 < (a1.length : Int))) →
      Q (-1)
    )

def slices_ContainsFunc_Sapi_Cond_api_Cond__farkas_asked_2.wp (a1 : (List api_Cond)) (a2 : Int) (Q : Bool → Prop) : Prop :=
  ∀ (x1 : Int), x1 = (slices_IndexFunc_Sapi_Cond_api_Cond__farkas_asked_2.fn a1 a2) →
  Q (decide (x1 ≥ (0 : Int)))

def farkas_asked.wp (a1 : (List api_Cond)) (a2 : Int) (Q : Int → Prop) : Prop :=
  ((((decide (a2 < (0 : Int))) || (decide (a2 > (12 : Int)))) = true) →
    Q (6 : Int)
  ) ∧ ((((decide (a2 < (0 : Int))) || (decide (a2 > (12 : Int)))) = false) →
    ∀ (_ : a1.length ≤ 9223372036854775807),
    (((a1.length : Int) > (96 : Int)) →
      Q (3 : Int)
    ) ∧ ((¬ ((a1.length : Int) > (96 : Int))) →
      (((slices_ContainsFunc_Sapi_Cond_api_Cond__farkas_asked_1.fn a1) = true) →
        Q (1 : Int)
      ) ∧ (((slices_ContainsFunc_Sapi_Cond_api_Cond__farkas_asked_1.fn a1) = false) →
        (((slices_ContainsFunc_Sapi_Cond_api_Cond__farkas_asked_2.fn a1 a2) = true) →
          Q (2 : Int)
        ) ∧ (((slices_ContainsFunc_Sapi_Cond_api_Cond__farkas_asked_2.fn a1 a2) = false) →
          Q (0 : Int)
        )
      )
    )
  )

def farkas_first.wp (a1 : (List api_Cond)) (a2 : Int) (Q : farkas_table → Prop) : Prop :=
  ∀ (_ : a1.length ≤ 9223372036854775807),
  ∃ I7 : Nat → Int → (List farkas_row) → Prop,
  (∃ n, I7 n (0 : Int) ([] : List farkas_row)) ∧
  ∀ (n7 : Nat) (x3 : Int) (x4 : (List farkas_row)), I7 n7 x3 x4 →
    ((x3 < (a1.length : Int)) →
      ((0 : Int) ≤ x3 ∧ x3 < (a1.length : Int)) ∧
      ∀ (x8 : api_Cond), x8 = (a1.getD (Int.toNat x3) d_api_Cond) →
      ((x8.1 = (2 : Int)) →
        (-9223372036854775808 ≤ x3 + (1 : Int) ∧ x3 + (1 : Int) ≤ 9223372036854775807) ∧
        ∃ m, m < n7 ∧ I7 m (x3 + (1 : Int)) x4
      ) ∧ ((x8.1 ≠ (2 : Int)) →
        (-9223372036854775808 ≤ a2 + (1 : Int) ∧ a2 + (1 : Int) ≤ 9223372036854775807) ∧
        (-9223372036854775808 ≤ (a2 + (1 : Int)) + (a1.length : Int) ∧ (a2 + (1 : Int)) + (a1.length : Int) ≤ 9223372036854775807) ∧
        ((0 : Int) ≤ ((a2 + (1 : Int)) + (a1.length : Int)) ∧ ((a2 + (1 : Int)) + (a1.length : Int)) ≤ ((a2 + (1 : Int)) + (a1.length : Int)) ∧ ((a2 + (1 : Int)) + (a1.length : Int)) * 8 ≤ 140737488355328 ∧ ((a2 + (1 : Int)) + (a1.length : Int)) ≤ 9223372036854775807) ∧
        ∀ (x9 : (List Int)), x9 = (List.replicate (Int.toNat ((a2 + (1 : Int)) + (a1.length : Int))) (0 : Int)) →
        ∀ (_ : a1.length ≤ 9223372036854775807),
        ∀ (x10 : (List Int)), x10 = (x8.2.2.1.take (min x8.2.2.1.length x9.length) ++ x9.drop (min x8.2.2.1.length x9.length)) →
        (-9223372036854775808 ≤ a2 + (1 : Int) ∧ a2 + (1 : Int) ≤ 9223372036854775807) ∧
        (-9223372036854775808 ≤ (a2 + (1 : Int)) + x3 ∧ (a2 + (1 : Int)) + x3 ≤ 9223372036854775807) ∧
        ((0 : Int) ≤ a2 ∧ a2 < (x10.length : Int)) ∧
        (Int.toNat a2 < x10.length) ∧
        ((0 : Int) ≤ ((a2 + (1 : Int)) + x3) ∧ ((a2 + (1 : Int)) + x3) < ((x10.set (Int.toNat a2) x8.2.2.2).length : Int)) ∧
        (Int.toNat ((a2 + (1 : Int)) + x3) < (x10.set (Int.toNat a2) x8.2.2.2).length) ∧
        ∀ (x11 : (List Int)), x11 = ((x10.set (Int.toNat a2) x8.2.2.2).set (Int.toNat ((a2 + (1 : Int)) + x3)) (1 : Int)) →
        ((x4.length + [(x8.1 == (1 : Int), x11)].length) * 32 ≤ 140737488355328 ∧ x4.length + [(x8.1 == (1 : Int), x11)].length ≤ 9223372036854775807) ∧
        ∀ (x12 : (List farkas_row)), x12 = (x4 ++ [(x8.1 == (1 : Int), x11)]) →
        (-9223372036854775808 ≤ x3 + (1 : Int) ∧ x3 + (1 : Int) ≤ 9223372036854775807) ∧
        ∃ m, m < n7 ∧ I7 m (x3 + (1 : Int)) x12
      )
    ) ∧ ((¬ (x3 < (a1.length : Int))) →
      Q (a2, x4)
    )

def farkas_vector_int_by.wp (a1 : (List Int)) (a2 : Int) (Q : (List Int) → Prop) : Prop :=
  ((0 : Int) ≤ (a1.length : Int) ∧ (a1.length : Int) ≤ (a1.length : Int) ∧ (a1.length : Int) * 8 ≤ 140737488355328 ∧ (a1.length : Int) ≤ 9223372036854775807) ∧
  ∀ (x1 : (List Int)), x1 = (List.replicate (Int.toNat (a1.length : Int)) (0 : Int)) →
  ∀ (_ : a1.length ≤ 9223372036854775807),
  ∀ (x2 : (List Int)), x2 = (a1.take (min a1.length x1.length) ++ x1.drop (min a1.length x1.length)) →
  ∃ I9 : Nat → Int → (List Int) → Prop,
  (∃ n, I9 n (0 : Int) x2) ∧
  ∀ (n9 : Nat) (x5 : Int) (x6 : (List Int)), I9 n9 x5 x6 →
    ((x5 < (x2.length : Int)) →
      ((0 : Int) ≤ x5 ∧ x5 < (x6.length : Int)) ∧
      (Int.toNat x5 < x6.length) ∧
      (a2 ≠ 0 ∧ -9223372036854775808 ≤ Int.tdiv (x6.getD (Int.toNat x5) (0 : Int)) a2 ∧ Int.tdiv (x6.getD (Int.toNat x5) (0 : Int)) a2 ≤ 9223372036854775807) ∧
      ((0 : Int) ≤ x5 ∧ x5 < (x6.length : Int)) ∧
      (Int.toNat x5 < x6.length) ∧
      ∀ (x10 : (List Int)), x10 = (x6.set (Int.toNat x5) (Int.tdiv (x6.getD (Int.toNat x5) (0 : Int)) a2)) →
      (-9223372036854775808 ≤ x5 + (1 : Int) ∧ x5 + (1 : Int) ≤ 9223372036854775807) ∧
      ∃ m, m < n9 ∧ I9 m (x5 + (1 : Int)) x10
    ) ∧ ((¬ (x5 < (x2.length : Int))) →
      Q x6
    )

def num_common.wp (a1 : Int) (a2 : Int) (Q : Int → Prop) : Prop :=
  ∃ I7 : Nat → Int → Int → Prop,
  (∃ n, I7 n a1 a2) ∧
  ∀ (n7 : Nat) (x3 : Int) (x4 : Int), I7 n7 x3 x4 →
    ((x4 > (0 : Int)) →
      (x4 ≠ 0) ∧
      ∃ m, m < n7 ∧ I7 m x4 (Int.tmod x3 x4)
    ) ∧ ((¬ (x4 > (0 : Int))) →
      Q x3
    )

def num_size.wp (a1 : Int) (Q : Int → Prop) : Prop :=
  ((a1 < (0 : Int)) →
    ∀ (x1 : Int), x1 = (IntKind.wrap .u64 (-(IntKind.wrap .u64 a1))) →
    Q x1
  ) ∧ ((¬ (a1 < (0 : Int))) →
    Q (IntKind.wrap .u64 a1)
  )

def num_Gcd_1.wp (a1 : Int) (a2 : Int) (Q : Int → Prop) : Prop :=
  (num_size.pre a2) ∧
  (num_common.pre a1 (num_size.fn a2)) ∧
  ∀ (x1 : Int), x1 = (num_size.fn a2) →
  ∀ (x2 : Int), x2 = (num_common.fn a1 x1) →
  Q x2

def num_fold_uint64__num_Gcd_1.wp (a1 : (List Int)) (a2 : Int) (Q : Int → Prop) : Prop :=
  ∀ (_ : a1.length ≤ 9223372036854775807),
  ∃ I7 : Nat → Int → Int → Prop,
  (∃ n, I7 n a2 (0 : Int)) ∧
  ∀ (n7 : Nat) (x3 : Int) (x4 : Int), I7 n7 x3 x4 →
    ((x4 < (a1.length : Int)) →
      ((0 : Int) ≤ x4 ∧ x4 < (a1.length : Int)) ∧
      (num_Gcd_1.pre x3 (gI a1 x4)) ∧
      ∀ (x8 : Int), x8 = (num_Gcd_1.fn x3 (gI a1 x4)) →
      (-9223372036854775808 ≤ x4 + (1 : Int) ∧ x4 + (1 : Int) ≤ 9223372036854775807) ∧
      ∃ m, m < n7 ∧ I7 m x8 (x4 + (1 : Int))
    ) ∧ ((¬ (x4 < (a1.length : Int))) →
      Q x3
    )

def num_Gcd.wp (a1 : (List Int)) (Q : Int × Int → Prop) : Prop :=
  (num_fold_uint64__num_Gcd_1.pre a1 (0 : Int)) ∧
  ∀ (x1 : Int), x1 = (num_fold_uint64__num_Gcd_1.fn a1 (0 : Int)) →
  ((x1 > (9223372036854775807 : Int)) →
    Q (0, 3)
  ) ∧ ((¬ (x1 > (9223372036854775807 : Int))) →
    (-9223372036854775808 ≤ x1 ∧ x1 ≤ 9223372036854775807) ∧
    Q (x1, 0)
  )

def farkas_row_reduced.wp (a1 : farkas_row) (Q : farkas_row → Prop) : Prop :=
  (num_Gcd.pre a1.2) ∧
  ∀ (x1 : Int × Int), x1 = (num_Gcd.fn a1.2) →
  ((x1.1 > (1 : Int)) →
    (farkas_vector_int_by.pre a1.2 x1.1) ∧
    ∀ (x2 : (List Int)), x2 = (farkas_vector_int_by.fn a1.2 x1.1) →
    Q (a1.1, x2)
  ) ∧ ((¬ (x1.1 > (1 : Int))) →
    Q a1
  )

def slices_Equal_farkas_vector_int_int.wp (a1 : (List Int)) (a2 : (List Int)) (Q : Bool → Prop) : Prop :=
  ∀ (_ : a1.length ≤ 9223372036854775807),
  ∀ (_ : a2.length ≤ 9223372036854775807),
  (((a1.length : Int) ≠ (a2.length : Int)) →
    Q false
  ) ∧ (((a1.length : Int) = (a2.length : Int)) →
    ∀ (_ : a1.length ≤ 9223372036854775807),
    ∃ I4 : Nat → Int → Prop,
    (∃ n, I4 n (0 : Int)) ∧
    ∀ (n4 : Nat) (x2 : Int), I4 n4 x2 →
      ((x2 < (a1.length : Int)) →
        ((0 : Int) ≤ x2 ∧ x2 < (a1.length : Int)) ∧
        ((0 : Int) ≤ x2 ∧ x2 < (a2.length : Int)) ∧
        (((gI a1 x2) ≠ (gI a2 x2)) →
          Q false
        ) ∧ (((gI a1 x2) = (gI a2 x2)) →
          (-9223372036854775808 ≤ x2 + (1 : Int) ∧ x2 + (1 : Int) ≤ 9223372036854775807) ∧
          ∃ m, m < n4 ∧ I4 m (x2 + (1 : Int))
        )
      ) ∧ ((¬ (x2 < (a1.length : Int))) →
        Q true
      )
  )

def farkas_table_kept_1.wp (a1 : farkas_row) (a2 : Bool) (a3 : (List Int)) (a4 : Int) (a5 : (List farkas_row)) (Q : Bool → Prop) : Prop :=
  ((a1.1 == a2) = true → -9223372036854775808 ≤ a4 + (1 : Int) ∧ a4 + (1 : Int) ≤ 9223372036854775807) ∧
  ((a1.1 == a2) = true → (0 : Int) ≤ (a4 + (1 : Int)) ∧ (a4 + (1 : Int)) ≤ (a1.2.length : Int)) ∧
  ((a1.1 == a2) = true → -9223372036854775808 ≤ a4 + (1 : Int) ∧ a4 + (1 : Int) ≤ 9223372036854775807) ∧
  ((a1.1 == a2) = true → (0 : Int) ≤ (a4 + (1 : Int)) ∧ (a4 + (1 : Int)) ≤ (a3.length : Int)) ∧
  Q ((a1.1 == a2) && (slices_Equal_farkas_vector_int_int.fn (a1.2.take (Int.toNat (a4 + (1 : Int)))) (a3.take (Int.toNat (a4 + (1 : Int))))))

def slices_IndexFunc_Sfarkas_row_farkas_row__farkas_table_kept_1.wp (a1 : (List farkas_row)) (a2 : Bool) (a3 : (List Int)) (a4 : Int) (a5 : (List farkas_row)) (Q : Int → Prop) : Prop :=
  ∀ (_ : a1.length ≤ 9223372036854775807),
  ∃ I4 : Nat → Int → Prop,
  (∃ n, I4 n (0 : Int)) ∧
  ∀ (n4 : Nat) (x2 : Int), I4 n4 x2 →
    ((x2 < (a1.length : Int)) →
      ((0 : Int) ≤ x2 ∧ x2 < (a1.length : Int)) ∧
      (farkas_table_kept_1.pre (a1.getD (Int.toNat x2) d_farkas_row) a2 a3 a4 a5) ∧
      (((farkas_table_kept_1.fn (a1.getD (Int.toNat x2) d_farkas_row) a2 a3 a4 a5) = true) →
        Q x2
      ) ∧ (((farkas_table_kept_1.fn (a1.getD (Int.toNat x2) d_farkas_row) a2 a3 a4 a5) = false) →
        (-9223372036854775808 ≤ x2 + (1 : Int) ∧ x2 + (1 : Int) ≤ 9223372036854775807) ∧
        ∃ m, m < n4 ∧ I4 m (x2 + (1 : Int))
      )
    ) ∧ ((¬ (x2 < (a1.length : Int))) →
      Q (-1)
    )

def slices_ContainsFunc_Sfarkas_row_farkas_row__farkas_table_kept_1.wp (a1 : (List farkas_row)) (a2 : Bool) (a3 : (List Int)) (a4 : Int) (a5 : (List farkas_row)) (Q : Bool → Prop) : Prop :=
  (slices_IndexFunc_Sfarkas_row_farkas_row__farkas_table_kept_1.pre a1 a2 a3 a4 a5) ∧
  ∀ (x1 : Int), x1 = (slices_IndexFunc_Sfarkas_row_farkas_row__farkas_table_kept_1.fn a1 a2 a3 a4 a5) →
  Q (decide (x1 ≥ (0 : Int)))

def farkas_table_kept_2.wp (a1 : Int) (Q : Bool → Prop) : Prop :=
  Q ((decide (a1 < (-1073741824))) || (decide (a1 > (1073741824 : Int))))

def slices_IndexFunc_farkas_vector_int_int__farkas_table_kept_2.wp (a1 : (List Int)) (Q : Int → Prop) : Prop :=
  ∀ (_ : a1.length ≤ 9223372036854775807),
  ∃ I4 : Nat → Int → Prop,
  (∃ n, I4 n (0 : Int)) ∧
  ∀ (n4 : Nat) (x2 : Int), I4 n4 x2 →
    ((x2 < (a1.length : Int)) →
      ((0 : Int) ≤ x2 ∧ x2 < (a1.length : Int)) ∧
      (((farkas_table_kept_2.fn (gI a1 x2)) = true) →
        Q x2
      ) ∧ (((farkas_table_kept_2.fn (gI a1 x2)) = false) →
        (-9223372036854775808 ≤ x2 + (1 : Int) ∧ x2 + (1 : Int) ≤ 9223372036854775807) ∧
        ∃ m, m < n4 ∧ I4 m (x2 + (1 : Int))
      )
    ) ∧ ((¬ (x2 < (a1.length : Int))) →
      Q (-1)
    )

def slices_ContainsFunc_farkas_vector_int_int__farkas_table_kept_2.wp (a1 : (List Int)) (Q : Bool → Prop) : Prop :=
  ∀ (x1 : Int), x1 = (slices_IndexFunc_farkas_vector_int_int__farkas_table_kept_2.fn a1) →
  Q (decide (x1 ≥ (0 : Int)))

def farkas_table_kept.wp (a1 : farkas_table) (a2 : (List farkas_row)) (Q : farkas_table × Int → Prop) : Prop :=
  ∀ (_ : a2.length ≤ 9223372036854775807),
  ∃ I7 : Nat → Int → (List farkas_row) → Prop,
  (∃ n, I7 n (0 : Int) ([] : List farkas_row)) ∧
  ∀ (n7 : Nat) (x3 : Int) (x4 : (List farkas_row)), I7 n7 x3 x4 →
    ((x3 < (a2.length : Int)) →
      ((0 : Int) ≤ x3 ∧ x3 < (a2.length : Int)) ∧
      ∀ (x8 : farkas_row), x8 = (a2.getD (Int.toNat x3) d_farkas_row) →
      (farkas_row_reduced.pre x8) ∧
      ∀ (x9 : farkas_row), x9 = (farkas_row_reduced.fn x8) →
      (slices_ContainsFunc_Sfarkas_row_farkas_row__farkas_table_kept_1.pre x4 x9.1 x9.2 a1.1 a1.2) ∧
      (((slices_ContainsFunc_Sfarkas_row_farkas_row__farkas_table_kept_1.fn x4 x9.1 x9.2 a1.1 a1.2) = false) →
        ((x4.length + [x9].length) * 32 ≤ 140737488355328 ∧ x4.length + [x9].length ≤ 9223372036854775807) ∧
        (-9223372036854775808 ≤ x3 + (1 : Int) ∧ x3 + (1 : Int) ≤ 9223372036854775807) ∧
        ∃ m, m < n7 ∧ I7 m (x3 + (1 : Int)) (x4 ++ [x9])
      ) ∧ (((slices_ContainsFunc_Sfarkas_row_farkas_row__farkas_table_kept_1.fn x4 x9.1 x9.2 a1.1 a1.2) = true) →
        (-9223372036854775808 ≤ x3 + (1 : Int) ∧ x3 + (1 : Int) ≤ 9223372036854775807) ∧
        ∃ m, m < n7 ∧ I7 m (x3 + (1 : Int)) x4
      )
    ) ∧ ((¬ (x3 < (a2.length : Int))) →
      (((x4.length : Int) > (400 : Int)) →
        Q ((0, ([] : List farkas_row)), 3)
      ) ∧ ((¬ ((x4.length : Int) > (400 : Int))) →
        ∃ I13 : Nat → Int → Prop,
        (∃ n, I13 n (0 : Int)) ∧
        ∀ (n13 : Nat) (x11 : Int), I13 n13 x11 →
          ((x11 < (x4.length : Int)) →
            ((0 : Int) ≤ x11 ∧ x11 < (x4.length : Int)) ∧
            (Int.toNat x11 < x4.length) ∧
            ∀ (x14 : farkas_row), x14 = (x4.getD (Int.toNat x11) d_farkas_row) →
            (((slices_ContainsFunc_farkas_vector_int_int__farkas_table_kept_2.fn x14.2) = true) →
              Q ((0, ([] : List farkas_row)), 3)
            ) ∧ (((slices_ContainsFunc_farkas_vector_int_int__farkas_table_kept_2.fn x14.2) = false) →
              (-9223372036854775808 ≤ x11 + (1 : Int) ∧ x11 + (1 : Int) ≤ 9223372036854775807) ∧
              ∃ m, m < n13 ∧ I13 m (x11 + (1 : Int))
            )
          ) ∧ ((¬ (x11 < (x4.length : Int))) →
            Q ((a1.1, x4), 0)
          )
      )
    )

def farkas_table_solver.wp (a1 : farkas_table) (a2 : Int) (Q : Int → Prop) : Prop :=
  ∀ (_ : a1.2.length ≤ 9223372036854775807),
  ∃ I5 : Nat → Int → Int → Prop,
  (∃ n, I5 n (-1) (0 : Int)) ∧
  ∀ (n5 : Nat) (x1 : Int) (x2 : Int), I5 n5 x1 x2 →
    ((x2 < (a1.2.length : Int)) →
      ((0 : Int) ≤ x2 ∧ x2 < (a1.2.length : Int)) ∧
      ∀ (x6 : farkas_row), x6 = (a1.2.getD (Int.toNat x2) d_farkas_row) →
      (x6.1 = true → (0 : Int) ≤ a2 ∧ a2 < (x6.2.length : Int)) ∧
      (((x6.1 && ((gI x6.2 a2) != (0 : Int))) && (!(decide (x1 < (0 : Int))))) = true → (0 : Int) ≤ a2 ∧ a2 < (x6.2.length : Int)) ∧
      (((x6.1 && ((gI x6.2 a2) != (0 : Int))) && (!(decide (x1 < (0 : Int))))) = true → (0 : Int) ≤ a2 ∧ a2 < (x6.2.length : Int)) ∧
      (((x6.1 && ((gI x6.2 a2) != (0 : Int))) && (!(decide (x1 < (0 : Int))))) = true → -9223372036854775808 ≤ -(gI x6.2 a2) ∧ -(gI x6.2 a2) ≤ 9223372036854775807) ∧
      (((x6.1 && ((gI x6.2 a2) != (0 : Int))) && (!(decide (x1 < (0 : Int))))) = true → (0 : Int) ≤ x1 ∧ x1 < (a1.2.length : Int)) ∧
      (((x6.1 && ((gI x6.2 a2) != (0 : Int))) && (!(decide (x1 < (0 : Int))))) = true → (0 : Int) ≤ a2 ∧ a2 < (((a1.2.getD (Int.toNat x1) d_farkas_row).2).length : Int)) ∧
      (((x6.1 && ((gI x6.2 a2) != (0 : Int))) && (!(decide (x1 < (0 : Int))))) = true → (0 : Int) ≤ x1 ∧ x1 < (a1.2.length : Int)) ∧
      (((x6.1 && ((gI x6.2 a2) != (0 : Int))) && (!(decide (x1 < (0 : Int))))) = true → (0 : Int) ≤ a2 ∧ a2 < (((a1.2.getD (Int.toNat x1) d_farkas_row).2).length : Int)) ∧
      (((x6.1 && ((gI x6.2 a2) != (0 : Int))) && (!(decide (x1 < (0 : Int))))) = true → -9223372036854775808 ≤ -(gI ((a1.2.getD (Int.toNat x1) d_farkas_row).2) a2) ∧ -(gI ((a1.2.getD (Int.toNat x1) d_farkas_row).2) a2) ≤ 9223372036854775807) ∧
      ∀ (x7 : Int), x7 = (if (-(gI ((a1.2.getD (Int.toNat x1) d_farkas_row).2) a2)) > (gI ((a1.2.getD (Int.toNat x1) d_farkas_row).2) a2) then (-(gI ((a1.2.getD (Int.toNat x1) d_farkas_row).2) a2)) else (gI ((a1.2.getD (Int.toNat x1) d_farkas_row).2) a2)) →
      ((((x6.1 && ((gI x6.2 a2) != (0 : Int))) && ((decide (x1 < (0 : Int))) || (decide ((if (-(gI x6.2 a2)) > (gI x6.2 a2) then (-(gI x6.2 a2)) else (gI x6.2 a2)) < x7)))) = true) →
        (-9223372036854775808 ≤ x2 + (1 : Int) ∧ x2 + (1 : Int) ≤ 9223372036854775807) ∧
        ∃ m, m < n5 ∧ I5 m x2 (x2 + (1 : Int))
      ) ∧ ((((x6.1 && ((gI x6.2 a2) != (0 : Int))) && ((decide (x1 < (0 : Int))) || (decide ((if (-(gI x6.2 a2)) > (gI x6.2 a2) then (-(gI x6.2 a2)) else (gI x6.2 a2)) < x7)))) = false) →
        (-9223372036854775808 ≤ x2 + (1 : Int) ∧ x2 + (1 : Int) ≤ 9223372036854775807) ∧
        ∃ m, m < n5 ∧ I5 m x1 (x2 + (1 : Int))
      )
    ) ∧ ((¬ (x2 < (a1.2.length : Int))) →
      Q x1
    )

def farkas_vector_int_sum.wp (a1 : (List Int)) (a2 : Int) (a3 : Int) (a4 : (List Int)) (Q : (List Int) → Prop) : Prop :=
  ((0 : Int) ≤ (a1.length : Int) ∧ (a1.length : Int) ≤ (a1.length : Int) ∧ (a1.length : Int) * 8 ≤ 140737488355328 ∧ (a1.length : Int) ≤ 9223372036854775807) ∧
  ∀ (x1 : (List Int)), x1 = (List.replicate (Int.toNat (a1.length : Int)) (0 : Int)) →
  ∀ (_ : a1.length ≤ 9223372036854775807),
  ∀ (_ : a1.length ≤ 9223372036854775807),
  ∃ I8 : Nat → Int → (List Int) → Prop,
  (∃ n, I8 n (0 : Int) x1) ∧
  ∀ (n8 : Nat) (x4 : Int) (x5 : (List Int)), I8 n8 x4 x5 →
    ((x4 < (a1.length : Int)) →
      ((0 : Int) ≤ x4 ∧ x4 < (a1.length : Int)) ∧
      (-9223372036854775808 ≤ a2 * (gI a1 x4) ∧ a2 * (gI a1 x4) ≤ 9223372036854775807) ∧
      ((0 : Int) ≤ x4 ∧ x4 < (a4.length : Int)) ∧
      (-9223372036854775808 ≤ a3 * (gI a4 x4) ∧ a3 * (gI a4 x4) ≤ 9223372036854775807) ∧
      (-9223372036854775808 ≤ (a2 * (gI a1 x4)) + (a3 * (gI a4 x4)) ∧ (a2 * (gI a1 x4)) + (a3 * (gI a4 x4)) ≤ 9223372036854775807) ∧
      ((0 : Int) ≤ x4 ∧ x4 < (x5.length : Int)) ∧
      (Int.toNat x4 < x5.length) ∧
      ∀ (x9 : (List Int)), x9 = (x5.set (Int.toNat x4) ((a2 * (gI a1 x4)) + (a3 * (gI a4 x4)))) →
      (-9223372036854775808 ≤ x4 + (1 : Int) ∧ x4 + (1 : Int) ≤ 9223372036854775807) ∧
      ∃ m, m < n8 ∧ I8 m (x4 + (1 : Int)) x9
    ) ∧ ((¬ (x4 < (a1.length : Int))) →
      Q x5
    )

def farkas_table_without.wp (a1 : farkas_table) (a2 : Int) (Q : farkas_table × Int → Prop) : Prop :=
  (farkas_table_solver.pre a1 a2) ∧
  ∀ (x1 : Int), x1 = (farkas_table_solver.fn a1 a2) →
  ((x1 ≥ (0 : Int)) →
    ((0 : Int) ≤ x1 ∧ x1 < (a1.2.length : Int)) ∧
    ∀ (x2 : farkas_row), x2 = (a1.2.getD (Int.toNat x1) d_farkas_row) →
    ((0 : Int) ≤ a2 ∧ a2 < (x2.2.length : Int)) ∧
    ∃ R5 : Int → Int → Prop,
    (
      (((gI x2.2 a2) < (0 : Int)) →
        (-9223372036854775808 ≤ -(gI x2.2 a2) ∧ -(gI x2.2 a2) ≤ 9223372036854775807) ∧
        R5 (-1) (-(gI x2.2 a2))
      ) ∧ ((¬ ((gI x2.2 a2) < (0 : Int))) →
        R5 (1 : Int) (gI x2.2 a2)
      )
    ) ∧
    ∀ (x3 : Int) (x4 : Int), R5 x3 x4 →
      ∀ (_ : a1.2.length ≤ 9223372036854775807),
      ∃ I12 : Nat → Int → (List farkas_row) → Prop,
      (∃ n, I12 n (0 : Int) ([] : List farkas_row)) ∧
      ∀ (n12 : Nat) (x8 : Int) (x9 : (List farkas_row)), I12 n12 x8 x9 →
        ((x8 < (a1.2.length : Int)) →
          ((0 : Int) ≤ x8 ∧ x8 < (a1.2.length : Int)) ∧
          ∀ (x13 : farkas_row), x13 = (a1.2.getD (Int.toNat x8) d_farkas_row) →
          ((x8 = x1) →
            (-9223372036854775808 ≤ x8 + (1 : Int) ∧ x8 + (1 : Int) ≤ 9223372036854775807) ∧
            ∃ m, m < n12 ∧ I12 m (x8 + (1 : Int)) x9
          ) ∧ ((x8 ≠ x1) →
            ((0 : Int) ≤ a2 ∧ a2 < (x13.2.length : Int)) ∧
            (((gI x13.2 a2) = (0 : Int)) →
              ((x9.length + [x13].length) * 32 ≤ 140737488355328 ∧ x9.length + [x13].length ≤ 9223372036854775807) ∧
              (-9223372036854775808 ≤ x8 + (1 : Int) ∧ x8 + (1 : Int) ≤ 9223372036854775807) ∧
              ∃ m, m < n12 ∧ I12 m (x8 + (1 : Int)) (x9 ++ [x13])
            ) ∧ (((gI x13.2 a2) ≠ (0 : Int)) →
              (-9223372036854775808 ≤ -x3 ∧ -x3 ≤ 9223372036854775807) ∧
              ((0 : Int) ≤ a2 ∧ a2 < (x13.2.length : Int)) ∧
              (-9223372036854775808 ≤ (-x3) * (gI x13.2 a2) ∧ (-x3) * (gI x13.2 a2) ≤ 9223372036854775807) ∧
              (farkas_vector_int_sum.pre x13.2 x4 ((-x3) * (gI x13.2 a2)) x2.2) ∧
              ((x9.length + [(x13.1, farkas_vector_int_sum.fn x13.2 x4 ((-x3) * (gI x13.2 a2)) x2.2)].length) * 32 ≤ 140737488355328 ∧ x9.length + [(x13.1, farkas_vector_int_sum.fn x13.2 x4 ((-x3) * (gI x13.2 a2)) x2.2)].length ≤ 9223372036854775807) ∧
              ∀ (x14 : (List farkas_row)), x14 = (x9 ++ [(x13.1, farkas_vector_int_sum.fn x13.2 x4 ((-x3) * (gI x13.2 a2)) x2.2)]) →
              (-9223372036854775808 ≤ x8 + (1 : Int) ∧ x8 + (1 : Int) ≤ 9223372036854775807) ∧
              ∃ m, m < n12 ∧ I12 m (x8 + (1 : Int)) x14
            )
          )
        ) ∧ ((¬ (x8 < (a1.2.length : Int))) →
          (farkas_table_kept.pre a1 x9) ∧
          ∀ (x15 : farkas_table × Int), x15 = (farkas_table_kept.fn a1 x9) →
          ∀ (x16 : Int), x16 = x15.1.1 →
          ∀ (x17 : (List farkas_row)), x17 = x15.1.2 →
          Q ((x16, x17), x15.2)
        )
  ) ∧ ((¬ (x1 ≥ (0 : Int))) →
    ∀ (_ : a1.2.length ≤ 9223372036854775807),
    ∃ I24 : Nat → Int → (List farkas_row) → Prop,
    (∃ n, I24 n (0 : Int) ([] : List farkas_row)) ∧
    ∀ (n24 : Nat) (x20 : Int) (x21 : (List farkas_row)), I24 n24 x20 x21 →
      ((x20 < (a1.2.length : Int)) →
        ((0 : Int) ≤ x20 ∧ x20 < (a1.2.length : Int)) ∧
        ∀ (x25 : farkas_row), x25 = (a1.2.getD (Int.toNat x20) d_farkas_row) →
        ((0 : Int) ≤ a2 ∧ a2 < (x25.2.length : Int)) ∧
        (((gI x25.2 a2) = (0 : Int)) →
          ((x21.length + [x25].length) * 32 ≤ 140737488355328 ∧ x21.length + [x25].length ≤ 9223372036854775807) ∧
          (-9223372036854775808 ≤ x20 + (1 : Int) ∧ x20 + (1 : Int) ≤ 9223372036854775807) ∧
          ∃ m, m < n24 ∧ I24 m (x20 + (1 : Int)) (x21 ++ [x25])
        ) ∧ (((gI x25.2 a2) ≠ (0 : Int)) →
          (-9223372036854775808 ≤ x20 + (1 : Int) ∧ x20 + (1 : Int) ≤ 9223372036854775807) ∧
          ∃ m, m < n24 ∧ I24 m (x20 + (1 : Int)) x21
        )
      ) ∧ ((¬ (x20 < (a1.2.length : Int))) →
        ∀ (_ : a1.2.length ≤ 9223372036854775807),
        ∃ I32 : Nat → Int → (List farkas_row) → Prop,
        (∃ n, I32 n (0 : Int) x21) ∧
        ∀ (n32 : Nat) (x28 : Int) (x29 : (List farkas_row)), I32 n32 x28 x29 →
          ((x28 < (a1.2.length : Int)) →
            ((0 : Int) ≤ x28 ∧ x28 < (a1.2.length : Int)) ∧
            ∀ (x33 : farkas_row), x33 = (a1.2.getD (Int.toNat x28) d_farkas_row) →
            ∀ (_ : a1.2.length ≤ 9223372036854775807),
            ∃ I40 : Nat → Int → (List farkas_row) → Prop,
            (∃ n, I40 n (0 : Int) x29) ∧
            ∀ (n40 : Nat) (x36 : Int) (x37 : (List farkas_row)), I40 n40 x36 x37 →
              ((x36 < (a1.2.length : Int)) →
                ((0 : Int) ≤ x36 ∧ x36 < (a1.2.length : Int)) ∧
                ∀ (x41 : farkas_row), x41 = (a1.2.getD (Int.toNat x36) d_farkas_row) →
                ((0 : Int) ≤ a2 ∧ a2 < (x33.2.length : Int)) ∧
                ((decide ((gI x33.2 a2) > (0 : Int))) = true → (0 : Int) ≤ a2 ∧ a2 < (x41.2.length : Int)) ∧
                ((((decide ((gI x33.2 a2) > (0 : Int))) && (decide ((gI x41.2 a2) < (0 : Int)))) = true) →
                  ((0 : Int) ≤ a2 ∧ a2 < (x41.2.length : Int)) ∧
                  (-9223372036854775808 ≤ -(gI x41.2 a2) ∧ -(gI x41.2 a2) ≤ 9223372036854775807) ∧
                  ((0 : Int) ≤ a2 ∧ a2 < (x33.2.length : Int)) ∧
                  (farkas_vector_int_sum.pre x33.2 (-(gI x41.2 a2)) (gI x33.2 a2) x41.2) ∧
                  ((x37.length + [(false, farkas_vector_int_sum.fn x33.2 (-(gI x41.2 a2)) (gI x33.2 a2) x41.2)].length) * 32 ≤ 140737488355328 ∧ x37.length + [(false, farkas_vector_int_sum.fn x33.2 (-(gI x41.2 a2)) (gI x33.2 a2) x41.2)].length ≤ 9223372036854775807) ∧
                  ∀ (x42 : (List farkas_row)), x42 = (x37 ++ [(false, farkas_vector_int_sum.fn x33.2 (-(gI x41.2 a2)) (gI x33.2 a2) x41.2)]) →
                  (-9223372036854775808 ≤ x36 + (1 : Int) ∧ x36 + (1 : Int) ≤ 9223372036854775807) ∧
                  ∃ m, m < n40 ∧ I40 m (x36 + (1 : Int)) x42
                ) ∧ ((((decide ((gI x33.2 a2) > (0 : Int))) && (decide ((gI x41.2 a2) < (0 : Int)))) = false) →
                  (-9223372036854775808 ≤ x36 + (1 : Int) ∧ x36 + (1 : Int) ≤ 9223372036854775807) ∧
                  ∃ m, m < n40 ∧ I40 m (x36 + (1 : Int)) x37
                )
              ) ∧ ((¬ (x36 < (a1.2.length : Int))) →
                (-9223372036854775808 ≤ x28 + (1 : Int) ∧ x28 + (1 : Int) ≤ 9223372036854775807) ∧
                ∃ m, m < n32 ∧ I32 m (x28 + (1 : Int)) x37
              )
          ) ∧ ((¬ (x28 < (a1.2.length : Int))) →
            (farkas_table_kept.pre a1 x29) ∧
            ∀ (x43 : farkas_table × Int), x43 = (farkas_table_kept.fn a1 x29) →
            ∀ (x44 : Int), x44 = x43.2 →
            ∀ (x45 : Int), x45 = x43.1.1 →
            ∀ (x46 : (List farkas_row)), x46 = x43.1.2 →
            Q ((x45, x46), x44)
          )
      )
  )

def farkas_eliminated.wp (a1 : (List api_Cond)) (a2 : Int) (Q : (List farkas_table) × Int → Prop) : Prop :=
  (-9223372036854775808 ≤ a2 + (1 : Int) ∧ a2 + (1 : Int) ≤ 9223372036854775807) ∧
  ((0 : Int) ≤ (a2 + (1 : Int)) ∧ (a2 + (1 : Int)) ≤ (a2 + (1 : Int)) ∧ (a2 + (1 : Int)) * 32 ≤ 140737488355328 ∧ (a2 + (1 : Int)) ≤ 9223372036854775807) ∧
  ∀ (x1 : (List farkas_table)), x1 = (List.replicate (Int.toNat (a2 + (1 : Int))) d_farkas_table) →
  (farkas_first.pre a1 a2) ∧
  ((0 : Int) ≤ a2 ∧ a2 < (x1.length : Int)) ∧
  (Int.toNat a2 < x1.length) ∧
  ∀ (x2 : farkas_table), x2 = (farkas_first.fn a1 a2) →
  ∀ (x3 : (List farkas_table)), x3 = (x1.set (Int.toNat a2) x2) →
  (-9223372036854775808 ≤ a2 - (1 : Int) ∧ a2 - (1 : Int) ≤ 9223372036854775807) ∧
  ∃ I10 : Nat → Int → (List farkas_table) → Prop,
  (∃ n, I10 n (a2 - (1 : Int)) x3) ∧
  ∀ (n10 : Nat) (x6 : Int) (x7 : (List farkas_table)), I10 n10 x6 x7 →
    ((x6 ≥ (0 : Int)) →
      (-9223372036854775808 ≤ x6 + (1 : Int) ∧ x6 + (1 : Int) ≤ 9223372036854775807) ∧
      ((0 : Int) ≤ (x6 + (1 : Int)) ∧ (x6 + (1 : Int)) < (x7.length : Int)) ∧
      (Int.toNat (x6 + (1 : Int)) < x7.length) ∧
      (farkas_table_without.pre (x7.getD (Int.toNat (x6 + (1 : Int))) d_farkas_table) x6) ∧
      ((0 : Int) ≤ x6 ∧ x6 < (x7.length : Int)) ∧
      (Int.toNat x6 < x7.length) ∧
      ∀ (x11 : farkas_table × Int), x11 = (farkas_table_without.fn (x7.getD (Int.toNat (x6 + (1 : Int))) d_farkas_table) x6) →
      ∀ (x12 : Int), x12 = x11.2 →
      ∀ (x13 : (List farkas_table)), x13 = (x7.set (Int.toNat x6) x11.1) →
      ((x12 ≠ (0 : Int)) →
        Q (([] : List farkas_table), x12)
      ) ∧ ((x12 = (0 : Int)) →
        (-9223372036854775808 ≤ x6 - (1 : Int) ∧ x6 - (1 : Int) ≤ 9223372036854775807) ∧
        ∃ m, m < n10 ∧ I10 m (x6 - (1 : Int)) x13
      )
    ) ∧ ((¬ (x6 ≥ (0 : Int))) →
      Q (x7, 0)
    )

def slices_Clone_Sint_int.wp (a1 : (List Int)) (Q : (List Int) → Prop) : Prop :=
  ∀ (b1 : Bool), (b1 = true → a1 = []) →
  ((b1 = true) →
    Q ([] : List Int)
  ) ∧ ((b1 = false) →
    ((([] : List Int).length + a1.length) * 8 ≤ 140737488355328 ∧ ([] : List Int).length + a1.length ≤ 9223372036854775807) ∧
    Q (([] : List Int) ++ a1)
  )

def farkas_table_refuted.wp (a1 : farkas_table) (Q : (List Int) × Bool → Prop) : Prop :=
  ∀ (_ : a1.2.length ≤ 9223372036854775807),
  ∃ I4 : Nat → Int → Prop,
  (∃ n, I4 n (0 : Int)) ∧
  ∀ (n4 : Nat) (x2 : Int), I4 n4 x2 →
    ((x2 < (a1.2.length : Int)) →
      ((0 : Int) ≤ x2 ∧ x2 < (a1.2.length : Int)) ∧
      ∀ (x5 : farkas_row), x5 = (a1.2.getD (Int.toNat x2) d_farkas_row) →
      ((0 : Int) ≤ a1.1 ∧ a1.1 < (x5.2.length : Int)) ∧
      ((((decide ((gI x5.2 a1.1) ≥ (0 : Int))) && ((!x5.1) || ((gI x5.2 a1.1) == (0 : Int)))) = true) →
        (-9223372036854775808 ≤ x2 + (1 : Int) ∧ x2 + (1 : Int) ≤ 9223372036854775807) ∧
        ∃ m, m < n4 ∧ I4 m (x2 + (1 : Int))
      ) ∧ ((((decide ((gI x5.2 a1.1) ≥ (0 : Int))) && ((!x5.1) || ((gI x5.2 a1.1) == (0 : Int)))) = false) →
        (-9223372036854775808 ≤ a1.1 + (1 : Int) ∧ a1.1 + (1 : Int) ≤ 9223372036854775807) ∧
        ((0 : Int) ≤ (a1.1 + (1 : Int)) ∧ (a1.1 + (1 : Int)) ≤ (x5.2.length : Int)) ∧
        (slices_Clone_Sint_int.pre (x5.2.drop (Int.toNat (a1.1 + (1 : Int))))) ∧
        ∀ (x6 : (List Int)), x6 = (slices_Clone_Sint_int.fn (x5.2.drop (Int.toNat (a1.1 + (1 : Int))))) →
        (((gI x5.2 a1.1) > (0 : Int)) →
          ∃ I13 : Nat → Int → (List Int) → Prop,
          (∃ n, I13 n (0 : Int) x6) ∧
          ∀ (n13 : Nat) (x9 : Int) (x10 : (List Int)), I13 n13 x9 x10 →
            ((x9 < (x6.length : Int)) →
              ((0 : Int) ≤ x9 ∧ x9 < (x10.length : Int)) ∧
              (Int.toNat x9 < x10.length) ∧
              (-9223372036854775808 ≤ -(x10.getD (Int.toNat x9) (0 : Int)) ∧ -(x10.getD (Int.toNat x9) (0 : Int)) ≤ 9223372036854775807) ∧
              ((0 : Int) ≤ x9 ∧ x9 < (x10.length : Int)) ∧
              (Int.toNat x9 < x10.length) ∧
              ∀ (x14 : (List Int)), x14 = (x10.set (Int.toNat x9) (-(x10.getD (Int.toNat x9) (0 : Int)))) →
              (-9223372036854775808 ≤ x9 + (1 : Int) ∧ x9 + (1 : Int) ≤ 9223372036854775807) ∧
              ∃ m, m < n13 ∧ I13 m (x9 + (1 : Int)) x14
            ) ∧ ((¬ (x9 < (x6.length : Int))) →
              Q (x10, true)
            )
        ) ∧ ((¬ ((gI x5.2 a1.1) > (0 : Int))) →
          Q (x6, true)
        )
      )
    ) ∧ ((¬ (x2 < (a1.2.length : Int))) →
      Q (([] : List Int), false)
    )

def farkas_Prove.wp (a1 : (List api_Cond)) (a2 : Int) (Q : (List Int) × Int → Prop) : Prop :=
  ∀ (x1 : Int), x1 = (farkas_asked.fn a1 a2) →
  ((x1 ≠ (0 : Int)) →
    Q (([] : List Int), x1)
  ) ∧ ((x1 = (0 : Int)) →
    (farkas_eliminated.pre a1 a2) ∧
    ∀ (x2 : (List farkas_table) × Int), x2 = (farkas_eliminated.fn a1 a2) →
    ((x2.2 ≠ (0 : Int)) →
      Q (([] : List Int), x2.2)
    ) ∧ ((x2.2 = (0 : Int)) →
      ((0 : Int) ≤ (0 : Int) ∧ (0 : Int) < (x2.1.length : Int)) ∧
      (farkas_table_refuted.pre (x2.1.getD (Int.toNat (0 : Int)) d_farkas_table)) ∧
      ∀ (x3 : (List Int) × Bool), x3 = (farkas_table_refuted.fn (x2.1.getD (Int.toNat (0 : Int)) d_farkas_table)) →
      ∀ (x4 : (List Int)), x4 = x3.1 →
      ((x3.2 = false) →
        Q (([] : List Int), 5)
      ) ∧ ((x3.2 = true) →
        Q (x4, 0)
      )
    )
  )

def set_over.wp (a1 : (List api_Cond)) (a2 : Int) (Q : Bool → Prop) : Prop :=
  ∀ (_ : a1.length ≤ 9223372036854775807),
  ∃ I4 : Nat → Int → Prop,
  (∃ n, I4 n (0 : Int)) ∧
  ∀ (n4 : Nat) (x2 : Int), I4 n4 x2 →
    ((x2 < (a1.length : Int)) →
      ((0 : Int) ≤ x2 ∧ x2 < (a1.length : Int)) ∧
      ∀ (x5 : api_Cond), x5 = (a1.getD (Int.toNat x2) d_api_Cond) →
      ((((!(cond_Valid.fn x5)) || ((x5.2.2.1.length : Int) != a2)) = true) →
        Q false
      ) ∧ ((((!(cond_Valid.fn x5)) || ((x5.2.2.1.length : Int) != a2)) = false) →
        (-9223372036854775808 ≤ x2 + (1 : Int) ∧ x2 + (1 : Int) ≤ 9223372036854775807) ∧
        ∃ m, m < n4 ∧ I4 m (x2 + (1 : Int))
      )
    ) ∧ ((¬ (x2 < (a1.length : Int))) →
      Q true
    )

def set_Valid.wp (a1 : api_Set) (Q : Bool → Prop) : Prop :=
  (((((decide (a1.1 < (0 : Int))) || (decide (a1.1 > (12 : Int)))) || (decide ((a1.2.length : Int) > (400 : Int)))) = true) →
    Q false
  ) ∧ (((((decide (a1.1 < (0 : Int))) || (decide (a1.1 > (12 : Int)))) || (decide ((a1.2.length : Int) > (400 : Int)))) = false) →
    ∀ (_ : a1.2.length ≤ 9223372036854775807),
    ∃ I4 : Nat → Int → Prop,
    (∃ n, I4 n (0 : Int)) ∧
    ∀ (n4 : Nat) (x2 : Int), I4 n4 x2 →
      ((x2 < (a1.2.length : Int)) →
        ((0 : Int) ≤ x2 ∧ x2 < (a1.2.length : Int)) ∧
        ((((decide (((a1.2.getD (Int.toNat x2) []).length : Int) > (96 : Int))) || (!(set_over.fn (a1.2.getD (Int.toNat x2) []) a1.1))) = true) →
          Q false
        ) ∧ ((((decide (((a1.2.getD (Int.toNat x2) []).length : Int) > (96 : Int))) || (!(set_over.fn (a1.2.getD (Int.toNat x2) []) a1.1))) = false) →
          (-9223372036854775808 ≤ x2 + (1 : Int) ∧ x2 + (1 : Int) ≤ 9223372036854775807) ∧
          ∃ m, m < n4 ∧ I4 m (x2 + (1 : Int))
        )
      ) ∧ ((¬ (x2 < (a1.2.length : Int))) →
        Q true
      )
  )

def farkas_Empty.wp (a1 : api_Set) (Q : (List (List Int)) × Int → Prop) : Prop :=
  (((set_Valid.fn a1) = false) →
    Q (([] : List (List Int)), 1)
  ) ∧ (((set_Valid.fn a1) = true) →
    ∀ (_ : a1.2.length ≤ 9223372036854775807),
    ∃ I7 : Nat → Int → (List (List Int)) → Prop,
    (∃ n, I7 n (0 : Int) ([] : List (List Int))) ∧
    ∀ (n7 : Nat) (x3 : Int) (x4 : (List (List Int))), I7 n7 x3 x4 →
      ((x3 < (a1.2.length : Int)) →
        ((0 : Int) ≤ x3 ∧ x3 < (a1.2.length : Int)) ∧
        ∀ (x8 : (List Int) × Int), x8 = (farkas_Prove.fn (a1.2.getD (Int.toNat x3) []) a1.1) →
        ∀ (x9 : (List Int)), x9 = x8.1 →
        ∀ (x10 : Int), x10 = x8.2 →
        ((x10 ≠ (0 : Int)) →
          Q (([] : List (List Int)), x10)
        ) ∧ ((x10 = (0 : Int)) →
          ((x4.length + [x9].length) * 24 ≤ 140737488355328 ∧ x4.length + [x9].length ≤ 9223372036854775807) ∧
          (-9223372036854775808 ≤ x3 + (1 : Int) ∧ x3 + (1 : Int) ≤ 9223372036854775807) ∧
          ∃ m, m < n7 ∧ I7 m (x3 + (1 : Int)) (x4 ++ [x9])
        )
      ) ∧ ((¬ (x3 < (a1.2.length : Int))) →
        Q (x4, 0)
      )
  )

def law04_Few.wp (a1 : Int) (a2 : Int) (a3 : (List api_Set)) (Q : Bool → Prop) : Prop :=
  ∀ (_ : a3.length ≤ 9223372036854775807),
  ∃ I7 : Nat → Int → Int → Prop,
  (∃ n, I7 n (0 : Int) (0 : Int)) ∧
  ∀ (n7 : Nat) (x3 : Int) (x4 : Int), I7 n7 x3 x4 →
    ((x4 < (a3.length : Int)) →
      ((0 : Int) ≤ x4 ∧ x4 < (a3.length : Int)) ∧
      ∀ (x8 : api_Set), x8 = (a3.getD (Int.toNat x4) d_api_Set) →
      (-9223372036854775808 ≤ x3 + (x8.2.length : Int) ∧ x3 + (x8.2.length : Int) ≤ 9223372036854775807) ∧
      ∀ (_ : x8.2.length ≤ 9223372036854775807),
      ∃ I12 : Nat → Int → Prop,
      (∃ n, I12 n (0 : Int)) ∧
      ∀ (n12 : Nat) (x10 : Int), I12 n12 x10 →
        ((x10 < (x8.2.length : Int)) →
          ((0 : Int) ≤ x10 ∧ x10 < (x8.2.length : Int)) ∧
          ((((x8.2.getD (Int.toNat x10) []).length : Int) > a2) →
            Q false
          ) ∧ ((¬ (((x8.2.getD (Int.toNat x10) []).length : Int) > a2)) →
            (-9223372036854775808 ≤ x10 + (1 : Int) ∧ x10 + (1 : Int) ≤ 9223372036854775807) ∧
            ∃ m, m < n12 ∧ I12 m (x10 + (1 : Int))
          )
        ) ∧ ((¬ (x10 < (x8.2.length : Int))) →
          (-9223372036854775808 ≤ x4 + (1 : Int) ∧ x4 + (1 : Int) ≤ 9223372036854775807) ∧
          ∃ m, m < n7 ∧ I7 m (x3 + (x8.2.length : Int)) (x4 + (1 : Int))
        )
    ) ∧ ((¬ (x4 < (a3.length : Int))) →
      Q (decide (x3 ≤ a1))
    )

def farkas_size.wp (a1 : Int) (Q : Int → Prop) : Prop :=
  ((a1 < (0 : Int)) →
    ∀ (x1 : Int), x1 = (IntKind.wrap .u64 (-(IntKind.wrap .u64 a1))) →
    Q x1
  ) ∧ ((¬ (a1 < (0 : Int))) →
    Q (IntKind.wrap .u64 a1)
  )

def math_bits_Mul64.wp (a1 : Int) (a2 : Int) (Q : Int × Int → Prop) : Prop :=
  ∀ (x1 : Int), x1 = (IntKind.wrap .u64 ((BitVec.ofInt 64 a1 &&& BitVec.ofInt 64 (4294967295 : Int)).toNat : Int)) →
  (0 ≤ (32 : Int)) ∧
  ∀ (x2 : Int), x2 = (Int.fdiv a1 (2 ^ (min (Int.toNat (32 : Int)) 64))) →
  ∀ (x3 : Int), x3 = (IntKind.wrap .u64 ((BitVec.ofInt 64 a2 &&& BitVec.ofInt 64 (4294967295 : Int)).toNat : Int)) →
  (0 ≤ (32 : Int)) ∧
  ∀ (x4 : Int), x4 = (Int.fdiv a2 (2 ^ (min (Int.toNat (32 : Int)) 64))) →
  (0 ≤ (32 : Int)) ∧
  ∀ (x5 : Int), x5 = (IntKind.wrap .u64 ((IntKind.wrap .u64 (x2 * x3)) + (Int.fdiv (IntKind.wrap .u64 (x1 * x3)) (2 ^ (min (Int.toNat (32 : Int)) 64))))) →
  ∀ (x6 : Int), x6 = (IntKind.wrap .u64 ((BitVec.ofInt 64 x5 &&& BitVec.ofInt 64 (4294967295 : Int)).toNat : Int)) →
  (0 ≤ (32 : Int)) ∧
  ∀ (x7 : Int), x7 = (Int.fdiv x5 (2 ^ (min (Int.toNat (32 : Int)) 64))) →
  ∀ (x8 : Int), x8 = (IntKind.wrap .u64 (x6 + (IntKind.wrap .u64 (x1 * x4)))) →
  (0 ≤ (32 : Int)) ∧
  ∀ (x9 : Int), x9 = (IntKind.wrap .u64 ((IntKind.wrap .u64 ((IntKind.wrap .u64 (x2 * x4)) + x7)) + (Int.fdiv x8 (2 ^ (min (Int.toNat (32 : Int)) 64))))) →
  Q (x9, IntKind.wrap .u64 (a1 * a2))

def farkas_fraction_less.wp (a1 : farkas_fraction) (a2 : farkas_fraction) (Q : Bool → Prop) : Prop :=
  (((decide (a1.1 < (0 : Int))) ≠ (decide (a2.1 < (0 : Int)))) →
    Q (decide (a1.1 < (0 : Int)))
  ) ∧ (((decide (a1.1 < (0 : Int))) = (decide (a2.1 < (0 : Int)))) →
    (farkas_size.pre a1.1) ∧
    (math_bits_Mul64.pre (farkas_size.fn a1.1) (IntKind.wrap .u64 a2.2)) ∧
    ∀ (x1 : Int), x1 = (farkas_size.fn a1.1) →
    ∀ (x2 : Int × Int), x2 = (math_bits_Mul64.fn x1 (IntKind.wrap .u64 a2.2)) →
    ∀ (x3 : Int), x3 = x2.1 →
    ∀ (x4 : Int), x4 = x2.2 →
    (farkas_size.pre a2.1) ∧
    (math_bits_Mul64.pre (farkas_size.fn a2.1) (IntKind.wrap .u64 a1.2)) ∧
    ∀ (x5 : Int), x5 = (farkas_size.fn a2.1) →
    ∀ (x6 : Int × Int), x6 = (math_bits_Mul64.fn x5 (IntKind.wrap .u64 a1.2)) →
    ∀ (x7 : Int), x7 = x6.1 →
    ∀ (x8 : Int), x8 = x6.2 →
    ∃ R13 : Int → Int → Int → Int → Prop,
    (
      ((a1.1 < (0 : Int)) →
        R13 x7 x8 x3 x4
      ) ∧ ((¬ (a1.1 < (0 : Int))) →
        R13 x3 x4 x7 x8
      )
    ) ∧
    ∀ (x9 : Int) (x10 : Int) (x11 : Int) (x12 : Int), R13 x9 x10 x11 x12 →
      Q ((decide (x9 < x11)) || ((x9 == x11) && (decide (x10 < x12))))
  )

def farkas_point_bound.wp (a1 : farkas_point) (a2 : farkas_row) (a3 : Int) (Q : farkas_fraction → Prop) : Prop :=
  ∀ (_ : a1.1.length ≤ 9223372036854775807),
  ((0 : Int) ≤ a3 ∧ a3 < (a2.2.length : Int)) ∧
  (-9223372036854775808 ≤ (gI a2.2 a3) * a1.2 ∧ (gI a2.2 a3) * a1.2 ≤ 9223372036854775807) ∧
  ∀ (_ : a1.1.length ≤ 9223372036854775807),
  ∃ I7 : Nat → Int → Int → Prop,
  (∃ n, I7 n ((gI a2.2 a3) * a1.2) (0 : Int)) ∧
  ∀ (n7 : Nat) (x3 : Int) (x4 : Int), I7 n7 x3 x4 →
    ((x4 < (a1.1.length : Int)) →
      ((0 : Int) ≤ x4 ∧ x4 < (a1.1.length : Int)) ∧
      ((0 : Int) ≤ x4 ∧ x4 < (a2.2.length : Int)) ∧
      (-9223372036854775808 ≤ (gI a2.2 x4) * (gI a1.1 x4) ∧ (gI a2.2 x4) * (gI a1.1 x4) ≤ 9223372036854775807) ∧
      (-9223372036854775808 ≤ x3 + ((gI a2.2 x4) * (gI a1.1 x4)) ∧ x3 + ((gI a2.2 x4) * (gI a1.1 x4)) ≤ 9223372036854775807) ∧
      ∀ (x8 : Int), x8 = (x3 + ((gI a2.2 x4) * (gI a1.1 x4))) →
      (-9223372036854775808 ≤ x4 + (1 : Int) ∧ x4 + (1 : Int) ≤ 9223372036854775807) ∧
      ∃ m, m < n7 ∧ I7 m x8 (x4 + (1 : Int))
    ) ∧ ((¬ (x4 < (a1.1.length : Int))) →
      ((0 : Int) ≤ (a1.1.length : Int) ∧ (a1.1.length : Int) < (a2.2.length : Int)) ∧
      (((gI a2.2 (a1.1.length : Int)) < (0 : Int)) →
        ((0 : Int) ≤ (a1.1.length : Int) ∧ (a1.1.length : Int) < (a2.2.length : Int)) ∧
        (-9223372036854775808 ≤ -(gI a2.2 (a1.1.length : Int)) ∧ -(gI a2.2 (a1.1.length : Int)) ≤ 9223372036854775807) ∧
        Q (x3, -(gI a2.2 (a1.1.length : Int)))
      ) ∧ ((¬ ((gI a2.2 (a1.1.length : Int)) < (0 : Int))) →
        (-9223372036854775808 ≤ -x3 ∧ -x3 ≤ 9223372036854775807) ∧
        ((0 : Int) ≤ (a1.1.length : Int) ∧ (a1.1.length : Int) < (a2.2.length : Int)) ∧
        Q (-x3, gI a2.2 (a1.1.length : Int))
      )
    )

def farkas_point_value.wp (a1 : farkas_point) (a2 : farkas_table) (Q : farkas_fraction → Prop) : Prop :=
  ∀ (_ : a1.1.length ≤ 9223372036854775807),
  ∀ (_ : a2.2.length ≤ 9223372036854775807),
  ∃ I15 : Nat → Bool → Int → Int → Bool → Int → Int → Int → Prop,
  (∃ n, I15 n false (0 : Int) (0 : Int) false (0 : Int) (0 : Int) (0 : Int)) ∧
  ∀ (n15 : Nat) (x1 : Bool) (x2 : Int) (x3 : Int) (x4 : Bool) (x5 : Int) (x6 : Int) (x7 : Int), I15 n15 x1 x2 x3 x4 x5 x6 x7 →
    ((x7 < (a2.2.length : Int)) →
      ((0 : Int) ≤ x7 ∧ x7 < (a2.2.length : Int)) ∧
      ∀ (x16 : farkas_row), x16 = (a2.2.getD (Int.toNat x7) d_farkas_row) →
      ((0 : Int) ≤ (a1.1.length : Int) ∧ (a1.1.length : Int) < (x16.2.length : Int)) ∧
      (((gI x16.2 (a1.1.length : Int)) = (0 : Int)) →
        (-9223372036854775808 ≤ x7 + (1 : Int) ∧ x7 + (1 : Int) ≤ 9223372036854775807) ∧
        ∃ m, m < n15 ∧ I15 m x1 x2 x3 x4 x5 x6 (x7 + (1 : Int))
      ) ∧ (((gI x16.2 (a1.1.length : Int)) ≠ (0 : Int)) →
        (farkas_point_bound.pre a1 x16 a2.1) ∧
        ∀ (x17 : farkas_fraction), x17 = (farkas_point_bound.fn a1 x16 a2.1) →
        ∀ (x18 : Int), x18 = x17.1 →
        ∀ (x19 : Int), x19 = x17.2 →
        ((x16.1 = true) →
          Q (x18, x19)
        ) ∧ ((x16.1 = false) →
          ((0 : Int) ≤ (a1.1.length : Int) ∧ (a1.1.length : Int) < (x16.2.length : Int)) ∧
          (((gI x16.2 (a1.1.length : Int)) > (0 : Int)) →
            ((!(!x1)) = true → farkas_fraction_less.pre (x2, x3) (x18, x19)) ∧
            ((((!x1) || (farkas_fraction_less.fn (x2, x3) (x18, x19))) = true) →
              (-9223372036854775808 ≤ x7 + (1 : Int) ∧ x7 + (1 : Int) ≤ 9223372036854775807) ∧
              ∃ m, m < n15 ∧ I15 m true x18 x19 x4 x5 x6 (x7 + (1 : Int))
            ) ∧ ((((!x1) || (farkas_fraction_less.fn (x2, x3) (x18, x19))) = false) →
              (-9223372036854775808 ≤ x7 + (1 : Int) ∧ x7 + (1 : Int) ≤ 9223372036854775807) ∧
              ∃ m, m < n15 ∧ I15 m x1 x2 x3 x4 x5 x6 (x7 + (1 : Int))
            )
          ) ∧ ((¬ ((gI x16.2 (a1.1.length : Int)) > (0 : Int))) →
            ((!(!x4)) = true → farkas_fraction_less.pre (x18, x19) (x5, x6)) ∧
            ((((!x4) || (farkas_fraction_less.fn (x18, x19) (x5, x6))) = true) →
              (-9223372036854775808 ≤ x7 + (1 : Int) ∧ x7 + (1 : Int) ≤ 9223372036854775807) ∧
              ∃ m, m < n15 ∧ I15 m x1 x2 x3 true x18 x19 (x7 + (1 : Int))
            ) ∧ ((((!x4) || (farkas_fraction_less.fn (x18, x19) (x5, x6))) = false) →
              (-9223372036854775808 ≤ x7 + (1 : Int) ∧ x7 + (1 : Int) ≤ 9223372036854775807) ∧
              ∃ m, m < n15 ∧ I15 m x1 x2 x3 x4 x5 x6 (x7 + (1 : Int))
            )
          )
        )
      )
    ) ∧ ((¬ (x7 < (a2.2.length : Int))) →
      ((x1 = true) →
        (x1 = true) ∧
        Q (x2, x3)
      ) ∧ ((x1 = false) →
        ((x4 = true) →
          (x4 = true) ∧
          Q (x5, x6)
        ) ∧ ((x4 = false) →
          Q (0, 1)
        )
      )
    )

def farkas_point_with.wp (a1 : farkas_point) (a2 : farkas_fraction) (Q : farkas_point × Int → Prop) : Prop :=
  (num_Gcd.pre [a2.1, a2.2]) ∧
  ∀ (x1 : Int × Int), x1 = (num_Gcd.fn [a2.1, a2.2]) →
  (x1.1 ≠ 0 ∧ -9223372036854775808 ≤ Int.tdiv a2.1 x1.1 ∧ Int.tdiv a2.1 x1.1 ≤ 9223372036854775807) ∧
  (x1.1 ≠ 0 ∧ -9223372036854775808 ≤ Int.tdiv a2.2 x1.1 ∧ Int.tdiv a2.2 x1.1 ≤ 9223372036854775807) ∧
  (num_Gcd.pre [Int.tdiv a2.1 x1.1, a1.2]) ∧
  ∀ (x2 : Int × Int), x2 = (num_Gcd.fn [Int.tdiv a2.1 x1.1, a1.2]) →
  ∀ (x3 : Int), x3 = x2.1 →
  (x3 ≠ 0 ∧ -9223372036854775808 ≤ Int.tdiv (Int.tdiv a2.1 x1.1) x3 ∧ Int.tdiv (Int.tdiv a2.1 x1.1) x3 ≤ 9223372036854775807) ∧
  (x3 ≠ 0 ∧ -9223372036854775808 ≤ Int.tdiv a1.2 x3 ∧ Int.tdiv a1.2 x3 ≤ 9223372036854775807) ∧
  ∀ (x4 : Int), x4 = (Int.tdiv (Int.tdiv a2.1 x1.1) x3) →
  ((!(decide ((Int.tdiv a2.2 x1.1) > (268435456 : Int)))) = true → -9223372036854775808 ≤ (Int.tdiv a1.2 x3) * (Int.tdiv a2.2 x1.1) ∧ (Int.tdiv a1.2 x3) * (Int.tdiv a2.2 x1.1) ≤ 9223372036854775807) ∧
  ((((decide ((Int.tdiv a2.2 x1.1) > (268435456 : Int))) || (decide (((Int.tdiv a1.2 x3) * (Int.tdiv a2.2 x1.1)) > (268435456 : Int)))) = true) →
    Q ((([] : List Int), 0), 3)
  ) ∧ ((((decide ((Int.tdiv a2.2 x1.1) > (268435456 : Int))) || (decide (((Int.tdiv a1.2 x3) * (Int.tdiv a2.2 x1.1)) > (268435456 : Int)))) = false) →
    (-9223372036854775808 ≤ (Int.tdiv a1.2 x3) * (Int.tdiv a2.2 x1.1) ∧ (Int.tdiv a1.2 x3) * (Int.tdiv a2.2 x1.1) ≤ 9223372036854775807) ∧
    ∀ (x5 : Int), x5 = ((Int.tdiv a1.2 x3) * (Int.tdiv a2.2 x1.1)) →
    (num_Gcd.pre [x5, a1.2]) ∧
    ∀ (x6 : Int × Int), x6 = (num_Gcd.fn [x5, a1.2]) →
    (x6.1 ≠ 0 ∧ -9223372036854775808 ≤ Int.tdiv a1.2 x6.1 ∧ Int.tdiv a1.2 x6.1 ≤ 9223372036854775807) ∧
    (-9223372036854775808 ≤ (Int.tdiv a1.2 x6.1) * x5 ∧ (Int.tdiv a1.2 x6.1) * x5 ≤ 9223372036854775807) ∧
    ((((Int.tdiv a1.2 x6.1) * x5) > (268435456 : Int)) →
      Q ((([] : List Int), 0), 3)
    ) ∧ ((¬ (((Int.tdiv a1.2 x6.1) * x5) > (268435456 : Int))) →
      ∀ (_ : a1.1.length ≤ 9223372036854775807),
      ∃ I13 : Nat → Int → (List Int) → Prop,
      (∃ n, I13 n (0 : Int) ([] : List Int)) ∧
      ∀ (n13 : Nat) (x9 : Int) (x10 : (List Int)), I13 n13 x9 x10 →
        ((x9 < (a1.1.length : Int)) →
          ((0 : Int) ≤ x9 ∧ x9 < (a1.1.length : Int)) ∧
          (a1.2 ≠ 0 ∧ -9223372036854775808 ≤ Int.tdiv ((Int.tdiv a1.2 x6.1) * x5) a1.2 ∧ Int.tdiv ((Int.tdiv a1.2 x6.1) * x5) a1.2 ≤ 9223372036854775807) ∧
          (-9223372036854775808 ≤ (gI a1.1 x9) * (Int.tdiv ((Int.tdiv a1.2 x6.1) * x5) a1.2) ∧ (gI a1.1 x9) * (Int.tdiv ((Int.tdiv a1.2 x6.1) * x5) a1.2) ≤ 9223372036854775807) ∧
          ((x10.length + [(gI a1.1 x9) * (Int.tdiv ((Int.tdiv a1.2 x6.1) * x5) a1.2)].length) * 8 ≤ 140737488355328 ∧ x10.length + [(gI a1.1 x9) * (Int.tdiv ((Int.tdiv a1.2 x6.1) * x5) a1.2)].length ≤ 9223372036854775807) ∧
          ∀ (x14 : (List Int)), x14 = (x10 ++ [(gI a1.1 x9) * (Int.tdiv ((Int.tdiv a1.2 x6.1) * x5) a1.2)]) →
          (-9223372036854775808 ≤ x9 + (1 : Int) ∧ x9 + (1 : Int) ≤ 9223372036854775807) ∧
          ∃ m, m < n13 ∧ I13 m (x9 + (1 : Int)) x14
        ) ∧ ((¬ (x9 < (a1.1.length : Int))) →
          ((((decide (x4 > (268435456 : Int))) || (decide (x4 < (-268435456)))) = true) →
            Q ((([] : List Int), 0), 3)
          ) ∧ ((((decide (x4 > (268435456 : Int))) || (decide (x4 < (-268435456)))) = false) →
            (x5 ≠ 0 ∧ -9223372036854775808 ≤ Int.tdiv ((Int.tdiv a1.2 x6.1) * x5) x5 ∧ Int.tdiv ((Int.tdiv a1.2 x6.1) * x5) x5 ≤ 9223372036854775807) ∧
            (-9223372036854775808 ≤ x4 * (Int.tdiv ((Int.tdiv a1.2 x6.1) * x5) x5) ∧ x4 * (Int.tdiv ((Int.tdiv a1.2 x6.1) * x5) x5) ≤ 9223372036854775807) ∧
            ((x10.length + [x4 * (Int.tdiv ((Int.tdiv a1.2 x6.1) * x5) x5)].length) * 8 ≤ 140737488355328 ∧ x10.length + [x4 * (Int.tdiv ((Int.tdiv a1.2 x6.1) * x5) x5)].length ≤ 9223372036854775807) ∧
            ∀ (x15 : (List Int)), x15 = (x10 ++ [x4 * (Int.tdiv ((Int.tdiv a1.2 x6.1) * x5) x5)]) →
            ∃ I19 : Nat → Int → Prop,
            (∃ n, I19 n (0 : Int)) ∧
            ∀ (n19 : Nat) (x17 : Int), I19 n19 x17 →
              ((x17 < (x15.length : Int)) →
                ((0 : Int) ≤ x17 ∧ x17 < (x15.length : Int)) ∧
                (Int.toNat x17 < x15.length) ∧
                ∀ (x20 : Int), x20 = (x15.getD (Int.toNat x17) (0 : Int)) →
                ((((decide (x20 > (268435456 : Int))) || (decide (x20 < (-268435456)))) = true) →
                  Q ((([] : List Int), 0), 3)
                ) ∧ ((((decide (x20 > (268435456 : Int))) || (decide (x20 < (-268435456)))) = false) →
                  (-9223372036854775808 ≤ x17 + (1 : Int) ∧ x17 + (1 : Int) ≤ 9223372036854775807) ∧
                  ∃ m, m < n19 ∧ I19 m (x17 + (1 : Int))
                )
              ) ∧ ((¬ (x17 < (x15.length : Int))) →
                Q ((x15, (Int.tdiv a1.2 x6.1) * x5), 0)
              )
          )
        )
    )
  )

def farkas_Inner.wp (a1 : (List api_Cond)) (a2 : Int) (Q : (List Int) × Int × Int → Prop) : Prop :=
  ∀ (x1 : Int), x1 = (farkas_asked.fn a1 a2) →
  ((x1 ≠ (0 : Int)) →
    Q (([] : List Int), 0, x1)
  ) ∧ ((x1 = (0 : Int)) →
    (farkas_eliminated.pre a1 a2) ∧
    ∀ (x2 : (List farkas_table) × Int), x2 = (farkas_eliminated.fn a1 a2) →
    ((x2.2 ≠ (0 : Int)) →
      Q (([] : List Int), 0, x2.2)
    ) ∧ ((x2.2 = (0 : Int)) →
      ((0 : Int) ≤ (0 : Int) ∧ (0 : Int) < (x2.1.length : Int)) ∧
      (farkas_table_refuted.pre (x2.1.getD (Int.toNat (0 : Int)) d_farkas_table)) ∧
      ∀ (x3 : (List Int) × Bool), x3 = (farkas_table_refuted.fn (x2.1.getD (Int.toNat (0 : Int)) d_farkas_table)) →
      ((x3.2 = true) →
        Q (([] : List Int), 0, 5)
      ) ∧ ((x3.2 = false) →
        ∃ I12 : Nat → Int → Int → (List Int) → Int → Prop,
        (∃ n, I12 n (0 : Int) x2.2 ([] : List Int) (1 : Int)) ∧
        ∀ (n12 : Nat) (x4 : Int) (x5 : Int) (x6 : (List Int)) (x7 : Int), I12 n12 x4 x5 x6 x7 →
          ((x4 < a2) →
            (-9223372036854775808 ≤ x4 + (1 : Int) ∧ x4 + (1 : Int) ≤ 9223372036854775807) ∧
            ((0 : Int) ≤ (x4 + (1 : Int)) ∧ (x4 + (1 : Int)) < (x2.1.length : Int)) ∧
            (farkas_point_value.pre (x6, x7) (x2.1.getD (Int.toNat (x4 + (1 : Int))) d_farkas_table)) ∧
            (farkas_point_with.pre (x6, x7) (farkas_point_value.fn (x6, x7) (x2.1.getD (Int.toNat (x4 + (1 : Int))) d_farkas_table))) ∧
            ∀ (x13 : farkas_fraction), x13 = (farkas_point_value.fn (x6, x7) (x2.1.getD (Int.toNat (x4 + (1 : Int))) d_farkas_table)) →
            ∀ (x14 : farkas_point × Int), x14 = (farkas_point_with.fn (x6, x7) x13) →
            ∀ (x15 : Int), x15 = x14.2 →
            ∀ (x16 : (List Int)), x16 = x14.1.1 →
            ∀ (x17 : Int), x17 = x14.1.2 →
            ((x15 ≠ (0 : Int)) →
              ((x15 ≠ (0 : Int)) →
                Q (([] : List Int), 0, x15)
              ) ∧ ((x15 = (0 : Int)) →
                Q (([] : List Int), 0, x15)
              )
            ) ∧ ((x15 = (0 : Int)) →
              (-9223372036854775808 ≤ x4 + (1 : Int) ∧ x4 + (1 : Int) ≤ 9223372036854775807) ∧
              ∃ m, m < n12 ∧ I12 m (x4 + (1 : Int)) x15 x16 x17
            )
          ) ∧ ((¬ (x4 < a2)) →
            (((0 : Int) ≠ (0 : Int)) →
              Q (([] : List Int), 0, 0)
            ) ∧ (((0 : Int) = (0 : Int)) →
              Q (x6, x7, 0)
            )
          )
      )
    )
  )

def law09_ge.wp (a1 : Int) (a2 : (List Int)) (Q : api_Cond → Prop) : Prop :=
  Q (0, 0, (a2, a1))

def ref02_Order.wp (a1 : (List Int)) (a2 : (List Int)) (Q : Int → Prop) : Prop :=
  ∀ (_ : a1.length ≤ 9223372036854775807),
  ∃ I4 : Nat → Int → Prop,
  (∃ n, I4 n (0 : Int)) ∧
  ∀ (n4 : Nat) (x2 : Int), I4 n4 x2 →
    ((x2 < (a1.length : Int)) →
      ((0 : Int) ≤ x2 ∧ x2 < (a1.length : Int)) ∧
      ((0 : Int) ≤ x2 ∧ x2 < (a2.length : Int)) ∧
      (((gI a1 x2) < (gI a2 x2)) →
        Q (-1)
      ) ∧ ((¬ ((gI a1 x2) < (gI a2 x2))) →
        ((0 : Int) ≤ x2 ∧ x2 < (a1.length : Int)) ∧
        ((0 : Int) ≤ x2 ∧ x2 < (a2.length : Int)) ∧
        (((gI a1 x2) > (gI a2 x2)) →
          Q (1 : Int)
        ) ∧ ((¬ ((gI a1 x2) > (gI a2 x2))) →
          (-9223372036854775808 ≤ x2 + (1 : Int) ∧ x2 + (1 : Int) ≤ 9223372036854775807) ∧
          ∃ m, m < n4 ∧ I4 m (x2 + (1 : Int))
        )
      )
    ) ∧ ((¬ (x2 < (a1.length : Int))) →
      Q (0 : Int)
    )

def law09_list.wp (a1 : (List Int)) (a2 : (List Int)) (Q : Bool → Prop) : Prop :=
  (((a1.length : Int) == (a2.length : Int)) = true → ref02_Order.pre a1 a2) ∧
  ∀ (x1 : Int), x1 = (ref02_Order.fn a1 a2) →
  Q (((a1.length : Int) == (a2.length : Int)) && (x1 == (0 : Int)))

def law09_awake.wp (Q : Bool → Prop) : Prop :=
  (law09_ge.pre (-3) [1]) ∧
  (law09_ge.pre (2 : Int) [(-1)]) ∧
  ∀ (x1 : (List Int) × Int), x1 = (farkas_Prove.fn [law09_ge.fn (-3) [1], law09_ge.fn (2 : Int) [(-1)]] (1 : Int)) →
  ∀ (x2 : (List Int)), x2 = x1.1 →
  ∀ (x3 : Int), x3 = x1.2 →
  ∀ (x4 : (List Int) × Int), x4 = (farkas_Prove.fn [(1, 0, ([2], (-1)))] (1 : Int)) →
  ∀ (x5 : Int), x5 = x4.2 →
  ∀ (x6 : (List Int) × Int × Int), x6 = (farkas_Inner.fn [(1, 0, ([2], (-1)))] (1 : Int)) →
  ∀ (x7 : (List Int)), x7 = x6.1 →
  ∀ (x8 : Int), x8 = x6.2.1 →
  ∀ (x9 : Int), x9 = x6.2.2 →
  (law09_ge.pre (0 : Int) [1, (-1)]) ∧
  (law09_ge.pre (-1) [(-1), 1]) ∧
  ∀ (x10 : (List Int) × Int), x10 = (farkas_Prove.fn [law09_ge.fn (0 : Int) [1, (-1)], law09_ge.fn (-1) [(-1), 1]] (2 : Int)) →
  ∀ (x11 : (List Int)), x11 = x10.1 →
  ∀ (x12 : Int), x12 = x10.2 →
  Q ((((((((x3 == (0 : Int)) && (law09_list.fn x2 [1, 1])) && (x5 == (5 : Int))) && (x9 == (0 : Int))) && (law09_list.fn x7 [1])) && (x8 == (2 : Int))) && (x12 == (0 : Int))) && (law09_list.fn x11 [1, 1]))

def ref01_Fits.wp (a1 : Int) (Q : Bool → Prop) : Prop :=
  Q ((decide (a1 ≥ (-1048576))) && (decide (a1 ≤ (1048576 : Int))))

def ref02_Valid.wp (a1 : api_Lin) (Q : Bool → Prop) : Prop :=
  ∀ (_ : a1.1.length ≤ 9223372036854775807),
  ∃ I4 : Nat → Int → Prop,
  (∃ n, I4 n (0 : Int)) ∧
  ∀ (n4 : Nat) (x2 : Int), I4 n4 x2 →
    ((x2 < (a1.1.length : Int)) →
      ((0 : Int) ≤ x2 ∧ x2 < (a1.1.length : Int)) ∧
      (((ref01_Fits.fn (gI a1.1 x2)) = false) →
        Q false
      ) ∧ (((ref01_Fits.fn (gI a1.1 x2)) = true) →
        (-9223372036854775808 ≤ x2 + (1 : Int) ∧ x2 + (1 : Int) ≤ 9223372036854775807) ∧
        ∃ m, m < n4 ∧ I4 m (x2 + (1 : Int))
      )
    ) ∧ ((¬ (x2 < (a1.1.length : Int))) →
      Q ((decide ((a1.1.length : Int) ≤ (12 : Int))) && (ref01_Fits.fn a1.2))
    )

def ref03_Valid.wp (a1 : api_Cond) (Q : Bool → Prop) : Prop :=
  (((ref02_Valid.fn a1.2.2) = false) →
    Q false
  ) ∧ (((ref02_Valid.fn a1.2.2) = true) →
    ((a1.1 = (2 : Int)) →
      Q ((decide (a1.2.1 ≥ (1 : Int))) && (decide (a1.2.1 ≤ (512 : Int))))
    ) ∧ ((a1.1 ≠ (2 : Int)) →
      Q (((a1.1 == (0 : Int)) || (a1.1 == (1 : Int))) && (a1.2.1 == (0 : Int)))
    )
  )

def ref04_Valid.wp (a1 : api_Set) (Q : Bool → Prop) : Prop :=
  (((((decide (a1.1 < (0 : Int))) || (decide (a1.1 > (12 : Int)))) || (decide ((a1.2.length : Int) > (400 : Int)))) = true) →
    Q false
  ) ∧ (((((decide (a1.1 < (0 : Int))) || (decide (a1.1 > (12 : Int)))) || (decide ((a1.2.length : Int) > (400 : Int)))) = false) →
    ∀ (_ : a1.2.length ≤ 9223372036854775807),
    ∃ I4 : Nat → Int → Prop,
    (∃ n, I4 n (0 : Int)) ∧
    ∀ (n4 : Nat) (x2 : Int), I4 n4 x2 →
      ((x2 < (a1.2.length : Int)) →
        ((0 : Int) ≤ x2 ∧ x2 < (a1.2.length : Int)) ∧
        ∀ (_ : (a1.2.getD (Int.toNat x2) []).length ≤ 9223372036854775807),
        ((((a1.2.getD (Int.toNat x2) []).length : Int) > (96 : Int)) →
          Q false
        ) ∧ ((¬ (((a1.2.getD (Int.toNat x2) []).length : Int) > (96 : Int))) →
          ∀ (x5 : Int), x5 = ((a1.2.getD (Int.toNat x2) []).length : Int) →
          ∀ (_ : (a1.2.getD (Int.toNat x2) []).length ≤ 9223372036854775807),
          ∃ I9 : Nat → Int → Prop,
          (∃ n, I9 n (0 : Int)) ∧
          ∀ (n9 : Nat) (x7 : Int), I9 n9 x7 →
            ((x7 < x5) →
              ((0 : Int) ≤ x7 ∧ x7 < ((a1.2.getD (Int.toNat x2) []).length : Int)) ∧
              ∀ (x10 : api_Cond), x10 = ((a1.2.getD (Int.toNat x2) []).getD (Int.toNat x7) d_api_Cond) →
              ((((!(ref03_Valid.fn x10)) || ((x10.2.2.1.length : Int) != a1.1)) = true) →
                Q false
              ) ∧ ((((!(ref03_Valid.fn x10)) || ((x10.2.2.1.length : Int) != a1.1)) = false) →
                (-9223372036854775808 ≤ x7 + (1 : Int) ∧ x7 + (1 : Int) ≤ 9223372036854775807) ∧
                ∃ m, m < n9 ∧ I9 m (x7 + (1 : Int))
              )
            ) ∧ ((¬ (x7 < x5)) →
              (-9223372036854775808 ≤ x2 + (1 : Int) ∧ x2 + (1 : Int) ≤ 9223372036854775807) ∧
              ∃ m, m < n4 ∧ I4 m (x2 + (1 : Int))
            )
        )
      ) ∧ ((¬ (x2 < (a1.2.length : Int))) →
        Q true
      )
  )

def ref09_asked.wp (a1 : (List api_Cond)) (a2 : Int) (Q : Int → Prop) : Prop :=
  ((((decide (a2 < (0 : Int))) || (decide (a2 > (12 : Int)))) = true) →
    Q (6 : Int)
  ) ∧ ((((decide (a2 < (0 : Int))) || (decide (a2 > (12 : Int)))) = false) →
    ∀ (_ : a1.length ≤ 9223372036854775807),
    (((a1.length : Int) > (96 : Int)) →
      Q (3 : Int)
    ) ∧ ((¬ ((a1.length : Int) > (96 : Int))) →
      ∀ (_ : a1.length ≤ 9223372036854775807),
      ∃ I7 : Nat → Int → Int → Prop,
      (∃ n, I7 n (0 : Int) (0 : Int)) ∧
      ∀ (n7 : Nat) (x3 : Int) (x4 : Int), I7 n7 x3 x4 →
        ((x4 < (a1.length : Int)) →
          ((0 : Int) ≤ x4 ∧ x4 < (a1.length : Int)) ∧
          ∀ (x8 : api_Cond), x8 = (a1.getD (Int.toNat x4) d_api_Cond) →
          (((ref03_Valid.fn x8) = false) →
            Q (1 : Int)
          ) ∧ (((ref03_Valid.fn x8) = true) →
            (((x8.2.2.1.length : Int) ≠ a2) →
              (-9223372036854775808 ≤ x4 + (1 : Int) ∧ x4 + (1 : Int) ≤ 9223372036854775807) ∧
              ∃ m, m < n7 ∧ I7 m (2 : Int) (x4 + (1 : Int))
            ) ∧ (((x8.2.2.1.length : Int) = a2) →
              (-9223372036854775808 ≤ x4 + (1 : Int) ∧ x4 + (1 : Int) ≤ 9223372036854775807) ∧
              ∃ m, m < n7 ∧ I7 m x3 (x4 + (1 : Int))
            )
          )
        ) ∧ ((¬ (x4 < (a1.length : Int))) →
          Q x3
        )
    )
  )

def ref09_refuted.wp (a1 : (List ref09_Row)) (Q : (List Int) × Bool → Prop) : Prop :=
  ∀ (_ : a1.length ≤ 9223372036854775807),
  ∃ I4 : Nat → Int → Prop,
  (∃ n, I4 n (0 : Int)) ∧
  ∀ (n4 : Nat) (x2 : Int), I4 n4 x2 →
    ((x2 < (a1.length : Int)) →
      ((0 : Int) ≤ x2 ∧ x2 < (a1.length : Int)) ∧
      ∀ (x5 : ref09_Row), x5 = (a1.getD (Int.toNat x2) d_ref09_Row) →
      ((x5.1.2 < (0 : Int)) →
        Q (x5.2.2, true)
      ) ∧ ((¬ (x5.1.2 < (0 : Int))) →
        (((x5.2.1 && (decide (x5.1.2 > (0 : Int)))) = true) →
          ∀ (_ : x5.2.2.length ≤ 9223372036854775807),
          ∃ I12 : Nat → Int → (List Int) → Prop,
          (∃ n, I12 n (0 : Int) ([] : List Int)) ∧
          ∀ (n12 : Nat) (x8 : Int) (x9 : (List Int)), I12 n12 x8 x9 →
            ((x8 < (x5.2.2.length : Int)) →
              ((0 : Int) ≤ x8 ∧ x8 < (x5.2.2.length : Int)) ∧
              (-9223372036854775808 ≤ -(gI x5.2.2 x8) ∧ -(gI x5.2.2 x8) ≤ 9223372036854775807) ∧
              ((x9.length + [-(gI x5.2.2 x8)].length) * 8 ≤ 140737488355328 ∧ x9.length + [-(gI x5.2.2 x8)].length ≤ 9223372036854775807) ∧
              (-9223372036854775808 ≤ x8 + (1 : Int) ∧ x8 + (1 : Int) ≤ 9223372036854775807) ∧
              ∃ m, m < n12 ∧ I12 m (x8 + (1 : Int)) (x9 ++ [-(gI x5.2.2 x8)])
            ) ∧ ((¬ (x8 < (x5.2.2.length : Int))) →
              Q (x9, true)
            )
        ) ∧ (((x5.2.1 && (decide (x5.1.2 > (0 : Int)))) = false) →
          (-9223372036854775808 ≤ x2 + (1 : Int) ∧ x2 + (1 : Int) ≤ 9223372036854775807) ∧
          ∃ m, m < n4 ∧ I4 m (x2 + (1 : Int))
        )
      )
    ) ∧ ((¬ (x2 < (a1.length : Int))) →
      Q (([] : List Int), false)
    )

def ref09_Row_numbers.wp (a1 : ref09_Row) (Q : (List Int) → Prop) : Prop :=
  ((([] : List Int).length + a1.1.1.length) * 8 ≤ 140737488355328 ∧ ([] : List Int).length + a1.1.1.length ≤ 9223372036854775807) ∧
  (((([] : List Int) ++ a1.1.1).length + [a1.1.2].length) * 8 ≤ 140737488355328 ∧ (([] : List Int) ++ a1.1.1).length + [a1.1.2].length ≤ 9223372036854775807) ∧
  ((((([] : List Int) ++ a1.1.1) ++ [a1.1.2]).length + a1.2.2.length) * 8 ≤ 140737488355328 ∧ ((([] : List Int) ++ a1.1.1) ++ [a1.1.2]).length + a1.2.2.length ≤ 9223372036854775807) ∧
  ∀ (x1 : (List Int)), x1 = (((([] : List Int) ++ a1.1.1) ++ [a1.1.2]) ++ a1.2.2) →
  Q x1

def ref01_size.wp (a1 : Int) (Q : Int → Prop) : Prop :=
  ((a1 < (0 : Int)) →
    ∀ (x1 : Int), x1 = (IntKind.wrap .u64 (-(IntKind.wrap .u64 a1))) →
    Q x1
  ) ∧ ((¬ (a1 < (0 : Int))) →
    Q (IntKind.wrap .u64 a1)
  )

def ref01_Gcd.wp (a1 : (List Int)) (Q : Int × Int → Prop) : Prop :=
  ∀ (_ : a1.length ≤ 9223372036854775807),
  ∃ I7 : Nat → Int → Int → Prop,
  (∃ n, I7 n (0 : Int) (0 : Int)) ∧
  ∀ (n7 : Nat) (x3 : Int) (x4 : Int), I7 n7 x3 x4 →
    ((x4 < (a1.length : Int)) →
      ((0 : Int) ≤ x4 ∧ x4 < (a1.length : Int)) ∧
      (ref01_size.pre (gI a1 x4)) ∧
      ∀ (x8 : Int), x8 = (ref01_size.fn (gI a1 x4)) →
      ∃ I15 : Nat → Int → Int → Prop,
      (∃ n, I15 n x3 x8) ∧
      ∀ (n15 : Nat) (x11 : Int) (x12 : Int), I15 n15 x11 x12 →
        ((x12 ≠ (0 : Int)) →
          (x12 ≠ 0) ∧
          ∃ m, m < n15 ∧ I15 m x12 (Int.tmod x11 x12)
        ) ∧ ((x12 = (0 : Int)) →
          (-9223372036854775808 ≤ x4 + (1 : Int) ∧ x4 + (1 : Int) ≤ 9223372036854775807) ∧
          ∃ m, m < n7 ∧ I7 m x11 (x4 + (1 : Int))
        )
    ) ∧ ((¬ (x4 < (a1.length : Int))) →
      ((x3 = (9223372036854775808 : Int)) →
        Q (0, 3)
      ) ∧ ((x3 ≠ (9223372036854775808 : Int)) →
        (-9223372036854775808 ≤ x3 ∧ x3 ≤ 9223372036854775807) ∧
        Q (x3, 0)
      )
    )

def ref09_mix.wp (a1 : Int) (a2 : ref09_Row) (a3 : Int) (a4 : ref09_Row) (Q : ref09_Row → Prop) : Prop :=
  (ref09_Row_numbers.pre a2) ∧
  (ref09_Row_numbers.pre a4) ∧
  ∀ (x1 : (List Int)), x1 = (ref09_Row_numbers.fn a2) →
  ∀ (x2 : (List Int)), x2 = (ref09_Row_numbers.fn a4) →
  ((0 : Int) ≤ (x1.length : Int) ∧ (x1.length : Int) ≤ (x1.length : Int) ∧ (x1.length : Int) * 8 ≤ 140737488355328 ∧ (x1.length : Int) ≤ 9223372036854775807) ∧
  ∀ (x3 : (List Int)), x3 = (List.replicate (Int.toNat (x1.length : Int)) (0 : Int)) →
  ∀ (_ : x1.length ≤ 9223372036854775807),
  ∀ (_ : x1.length ≤ 9223372036854775807),
  ∃ I10 : Nat → Int → (List Int) → Prop,
  (∃ n, I10 n (0 : Int) x3) ∧
  ∀ (n10 : Nat) (x6 : Int) (x7 : (List Int)), I10 n10 x6 x7 →
    ((x6 < (x1.length : Int)) →
      ((0 : Int) ≤ x6 ∧ x6 < (x1.length : Int)) ∧
      (-9223372036854775808 ≤ a1 * (gI x1 x6) ∧ a1 * (gI x1 x6) ≤ 9223372036854775807) ∧
      ((0 : Int) ≤ x6 ∧ x6 < (x2.length : Int)) ∧
      (-9223372036854775808 ≤ a3 * (gI x2 x6) ∧ a3 * (gI x2 x6) ≤ 9223372036854775807) ∧
      (-9223372036854775808 ≤ (a1 * (gI x1 x6)) + (a3 * (gI x2 x6)) ∧ (a1 * (gI x1 x6)) + (a3 * (gI x2 x6)) ≤ 9223372036854775807) ∧
      ((0 : Int) ≤ x6 ∧ x6 < (x7.length : Int)) ∧
      (Int.toNat x6 < x7.length) ∧
      ∀ (x11 : (List Int)), x11 = (x7.set (Int.toNat x6) ((a1 * (gI x1 x6)) + (a3 * (gI x2 x6)))) →
      (-9223372036854775808 ≤ x6 + (1 : Int) ∧ x6 + (1 : Int) ≤ 9223372036854775807) ∧
      ∃ m, m < n10 ∧ I10 m (x6 + (1 : Int)) x11
    ) ∧ ((¬ (x6 < (x1.length : Int))) →
      (ref01_Gcd.pre x7) ∧
      ∀ (x12 : Int × Int), x12 = (ref01_Gcd.fn x7) →
      ∃ R14 : (List Int) → Prop,
      (
        ((x12.1 > (1 : Int)) →
          ∃ I21 : Nat → Int → (List Int) → Prop,
          (∃ n, I21 n (0 : Int) x7) ∧
          ∀ (n21 : Nat) (x17 : Int) (x18 : (List Int)), I21 n21 x17 x18 →
            ((x17 < (x7.length : Int)) →
              ((0 : Int) ≤ x17 ∧ x17 < (x18.length : Int)) ∧
              (Int.toNat x17 < x18.length) ∧
              (x12.1 ≠ 0 ∧ -9223372036854775808 ≤ Int.tdiv (x18.getD (Int.toNat x17) (0 : Int)) x12.1 ∧ Int.tdiv (x18.getD (Int.toNat x17) (0 : Int)) x12.1 ≤ 9223372036854775807) ∧
              ((0 : Int) ≤ x17 ∧ x17 < (x18.length : Int)) ∧
              (Int.toNat x17 < x18.length) ∧
              ∀ (x22 : (List Int)), x22 = (x18.set (Int.toNat x17) (Int.tdiv (x18.getD (Int.toNat x17) (0 : Int)) x12.1)) →
              (-9223372036854775808 ≤ x17 + (1 : Int) ∧ x17 + (1 : Int) ≤ 9223372036854775807) ∧
              ∃ m, m < n21 ∧ I21 m (x17 + (1 : Int)) x22
            ) ∧ ((¬ (x17 < (x7.length : Int))) →
              R14 x18
            )
        ) ∧ ((¬ (x12.1 > (1 : Int))) →
          R14 x7
        )
      ) ∧
      ∀ (x13 : (List Int)), R14 x13 →
        ∀ (_ : a2.1.1.length ≤ 9223372036854775807),
        ((0 : Int) ≤ (a2.1.1.length : Int) ∧ (a2.1.1.length : Int) ≤ (x13.length : Int)) ∧
        ((0 : Int) ≤ (a2.1.1.length : Int) ∧ (a2.1.1.length : Int) < (x13.length : Int)) ∧
        (-9223372036854775808 ≤ (a2.1.1.length : Int) + (1 : Int) ∧ (a2.1.1.length : Int) + (1 : Int) ≤ 9223372036854775807) ∧
        ((0 : Int) ≤ ((a2.1.1.length : Int) + (1 : Int)) ∧ ((a2.1.1.length : Int) + (1 : Int)) ≤ (x13.length : Int)) ∧
        ∀ (x23 : (List Int)), x23 = (x13.take (Int.toNat (a2.1.1.length : Int))) →
        ∀ (x24 : (List Int)), x24 = (x13.drop (Int.toNat ((a2.1.1.length : Int) + (1 : Int)))) →
        Q ((x23, gI x13 (a2.1.1.length : Int)), a2.2.1, x24)
    )

def ref09_same.wp (a1 : ref09_Row) (a2 : ref09_Row) (Q : Bool → Prop) : Prop :=
  ((((a1.2.1 != a2.2.1) || (a1.1.2 != a2.1.2)) = true) →
    Q false
  ) ∧ ((((a1.2.1 != a2.2.1) || (a1.1.2 != a2.1.2)) = false) →
    ∀ (_ : a1.1.1.length ≤ 9223372036854775807),
    ∃ I4 : Nat → Int → Prop,
    (∃ n, I4 n (0 : Int)) ∧
    ∀ (n4 : Nat) (x2 : Int), I4 n4 x2 →
      ((x2 < (a1.1.1.length : Int)) →
        ((0 : Int) ≤ x2 ∧ x2 < (a1.1.1.length : Int)) ∧
        ((0 : Int) ≤ x2 ∧ x2 < (a2.1.1.length : Int)) ∧
        (((gI a1.1.1 x2) ≠ (gI a2.1.1 x2)) →
          Q false
        ) ∧ (((gI a1.1.1 x2) = (gI a2.1.1 x2)) →
          (-9223372036854775808 ≤ x2 + (1 : Int) ∧ x2 + (1 : Int) ≤ 9223372036854775807) ∧
          ∃ m, m < n4 ∧ I4 m (x2 + (1 : Int))
        )
      ) ∧ ((¬ (x2 < (a1.1.1.length : Int))) →
        Q true
      )
  )

def ref09_Eliminate.wp (a1 : (List ref09_Row)) (a2 : Int) (Q : (List ref09_Row) × Int → Prop) : Prop :=
  ∀ (_ : a1.length ≤ 9223372036854775807),
  ∃ I7 : Nat → Int → Int → Prop,
  (∃ n, I7 n (-1) (0 : Int)) ∧
  ∀ (n7 : Nat) (x3 : Int) (x4 : Int), I7 n7 x3 x4 →
    ((x4 < (a1.length : Int)) →
      ((0 : Int) ≤ x4 ∧ x4 < (a1.length : Int)) ∧
      ∀ (x8 : ref09_Row), x8 = (a1.getD (Int.toNat x4) d_ref09_Row) →
      ((0 : Int) ≤ a2 ∧ a2 < (x8.1.1.length : Int)) ∧
      (((x8.2.1 && ((gI x8.1.1 a2) != (0 : Int))) && (!(decide (x3 < (0 : Int))))) = true → -9223372036854775808 ≤ -(gI x8.1.1 a2) ∧ -(gI x8.1.1 a2) ≤ 9223372036854775807) ∧
      (((x8.2.1 && ((gI x8.1.1 a2) != (0 : Int))) && (!(decide (x3 < (0 : Int))))) = true → (0 : Int) ≤ x3 ∧ x3 < (a1.length : Int)) ∧
      (((x8.2.1 && ((gI x8.1.1 a2) != (0 : Int))) && (!(decide (x3 < (0 : Int))))) = true → (0 : Int) ≤ a2 ∧ a2 < ((((a1.getD (Int.toNat x3) d_ref09_Row).1).1).length : Int)) ∧
      (((x8.2.1 && ((gI x8.1.1 a2) != (0 : Int))) && (!(decide (x3 < (0 : Int))))) = true → (0 : Int) ≤ x3 ∧ x3 < (a1.length : Int)) ∧
      (((x8.2.1 && ((gI x8.1.1 a2) != (0 : Int))) && (!(decide (x3 < (0 : Int))))) = true → (0 : Int) ≤ a2 ∧ a2 < ((((a1.getD (Int.toNat x3) d_ref09_Row).1).1).length : Int)) ∧
      (((x8.2.1 && ((gI x8.1.1 a2) != (0 : Int))) && (!(decide (x3 < (0 : Int))))) = true → -9223372036854775808 ≤ -(gI (((a1.getD (Int.toNat x3) d_ref09_Row).1).1) a2) ∧ -(gI (((a1.getD (Int.toNat x3) d_ref09_Row).1).1) a2) ≤ 9223372036854775807) ∧
      ((((x8.2.1 && ((gI x8.1.1 a2) != (0 : Int))) && ((decide (x3 < (0 : Int))) || (decide ((if (-(gI x8.1.1 a2)) > (gI x8.1.1 a2) then (-(gI x8.1.1 a2)) else (gI x8.1.1 a2)) < (if (-(gI (((a1.getD (Int.toNat x3) d_ref09_Row).1).1) a2)) > (gI (((a1.getD (Int.toNat x3) d_ref09_Row).1).1) a2) then (-(gI (((a1.getD (Int.toNat x3) d_ref09_Row).1).1) a2)) else (gI (((a1.getD (Int.toNat x3) d_ref09_Row).1).1) a2)))))) = true) →
        (-9223372036854775808 ≤ x4 + (1 : Int) ∧ x4 + (1 : Int) ≤ 9223372036854775807) ∧
        ∃ m, m < n7 ∧ I7 m x4 (x4 + (1 : Int))
      ) ∧ ((((x8.2.1 && ((gI x8.1.1 a2) != (0 : Int))) && ((decide (x3 < (0 : Int))) || (decide ((if (-(gI x8.1.1 a2)) > (gI x8.1.1 a2) then (-(gI x8.1.1 a2)) else (gI x8.1.1 a2)) < (if (-(gI (((a1.getD (Int.toNat x3) d_ref09_Row).1).1) a2)) > (gI (((a1.getD (Int.toNat x3) d_ref09_Row).1).1) a2) then (-(gI (((a1.getD (Int.toNat x3) d_ref09_Row).1).1) a2)) else (gI (((a1.getD (Int.toNat x3) d_ref09_Row).1).1) a2)))))) = false) →
        (-9223372036854775808 ≤ x4 + (1 : Int) ∧ x4 + (1 : Int) ≤ 9223372036854775807) ∧
        ∃ m, m < n7 ∧ I7 m x3 (x4 + (1 : Int))
      )
    ) ∧ ((¬ (x4 < (a1.length : Int))) →
      ∃ R10 : (List ref09_Row) → Prop,
      (
        ((x3 ≥ (0 : Int)) →
          ((0 : Int) ≤ x3 ∧ x3 < (a1.length : Int)) ∧
          ∀ (x11 : ref09_Row), x11 = (a1.getD (Int.toNat x3) d_ref09_Row) →
          ((0 : Int) ≤ a2 ∧ a2 < (x11.1.1.length : Int)) ∧
          ∃ R13 : Int → Prop,
          (
            (((gI x11.1.1 a2) < (0 : Int)) →
              R13 (-1)
            ) ∧ ((¬ ((gI x11.1.1 a2) < (0 : Int))) →
              R13 (1 : Int)
            )
          ) ∧
          ∀ (x12 : Int), R13 x12 →
            ∀ (_ : a1.length ≤ 9223372036854775807),
            ∃ I20 : Nat → Int → (List ref09_Row) → Prop,
            (∃ n, I20 n (0 : Int) ([] : List ref09_Row)) ∧
            ∀ (n20 : Nat) (x16 : Int) (x17 : (List ref09_Row)), I20 n20 x16 x17 →
              ((x16 < (a1.length : Int)) →
                ((0 : Int) ≤ x16 ∧ x16 < (a1.length : Int)) ∧
                ∀ (x21 : ref09_Row), x21 = (a1.getD (Int.toNat x16) d_ref09_Row) →
                ((x16 = x3) →
                  (-9223372036854775808 ≤ x16 + (1 : Int) ∧ x16 + (1 : Int) ≤ 9223372036854775807) ∧
                  ∃ m, m < n20 ∧ I20 m (x16 + (1 : Int)) x17
                ) ∧ ((x16 ≠ x3) →
                  ((0 : Int) ≤ a2 ∧ a2 < (x21.1.1.length : Int)) ∧
                  (((gI x21.1.1 a2) = (0 : Int)) →
                    ((x17.length + [x21].length) * 64 ≤ 140737488355328 ∧ x17.length + [x21].length ≤ 9223372036854775807) ∧
                    (-9223372036854775808 ≤ x16 + (1 : Int) ∧ x16 + (1 : Int) ≤ 9223372036854775807) ∧
                    ∃ m, m < n20 ∧ I20 m (x16 + (1 : Int)) (x17 ++ [x21])
                  ) ∧ (((gI x21.1.1 a2) ≠ (0 : Int)) →
                    (-9223372036854775808 ≤ -(gI x11.1.1 a2) ∧ -(gI x11.1.1 a2) ≤ 9223372036854775807) ∧
                    (-9223372036854775808 ≤ -x12 ∧ -x12 ≤ 9223372036854775807) ∧
                    ((0 : Int) ≤ a2 ∧ a2 < (x21.1.1.length : Int)) ∧
                    (-9223372036854775808 ≤ (-x12) * (gI x21.1.1 a2) ∧ (-x12) * (gI x21.1.1 a2) ≤ 9223372036854775807) ∧
                    (ref09_mix.pre (if (-(gI x11.1.1 a2)) > (gI x11.1.1 a2) then (-(gI x11.1.1 a2)) else (gI x11.1.1 a2)) x21 ((-x12) * (gI x21.1.1 a2)) x11) ∧
                    ((x17.length + [ref09_mix.fn (if (-(gI x11.1.1 a2)) > (gI x11.1.1 a2) then (-(gI x11.1.1 a2)) else (gI x11.1.1 a2)) x21 ((-x12) * (gI x21.1.1 a2)) x11].length) * 64 ≤ 140737488355328 ∧ x17.length + [ref09_mix.fn (if (-(gI x11.1.1 a2)) > (gI x11.1.1 a2) then (-(gI x11.1.1 a2)) else (gI x11.1.1 a2)) x21 ((-x12) * (gI x21.1.1 a2)) x11].length ≤ 9223372036854775807) ∧
                    ∀ (x22 : (List ref09_Row)), x22 = (x17 ++ [ref09_mix.fn (if (-(gI x11.1.1 a2)) > (gI x11.1.1 a2) then (-(gI x11.1.1 a2)) else (gI x11.1.1 a2)) x21 ((-x12) * (gI x21.1.1 a2)) x11]) →
                    (-9223372036854775808 ≤ x16 + (1 : Int) ∧ x16 + (1 : Int) ≤ 9223372036854775807) ∧
                    ∃ m, m < n20 ∧ I20 m (x16 + (1 : Int)) x22
                  )
                )
              ) ∧ ((¬ (x16 < (a1.length : Int))) →
                R10 x17
              )
        ) ∧ ((¬ (x3 ≥ (0 : Int))) →
          ∀ (_ : a1.length ≤ 9223372036854775807),
          ∃ I29 : Nat → Int → (List ref09_Row) → Prop,
          (∃ n, I29 n (0 : Int) ([] : List ref09_Row)) ∧
          ∀ (n29 : Nat) (x25 : Int) (x26 : (List ref09_Row)), I29 n29 x25 x26 →
            ((x25 < (a1.length : Int)) →
              ((0 : Int) ≤ x25 ∧ x25 < (a1.length : Int)) ∧
              ∀ (x30 : ref09_Row), x30 = (a1.getD (Int.toNat x25) d_ref09_Row) →
              ((0 : Int) ≤ a2 ∧ a2 < (x30.1.1.length : Int)) ∧
              (((gI x30.1.1 a2) = (0 : Int)) →
                ((x26.length + [x30].length) * 64 ≤ 140737488355328 ∧ x26.length + [x30].length ≤ 9223372036854775807) ∧
                (-9223372036854775808 ≤ x25 + (1 : Int) ∧ x25 + (1 : Int) ≤ 9223372036854775807) ∧
                ∃ m, m < n29 ∧ I29 m (x25 + (1 : Int)) (x26 ++ [x30])
              ) ∧ (((gI x30.1.1 a2) ≠ (0 : Int)) →
                (-9223372036854775808 ≤ x25 + (1 : Int) ∧ x25 + (1 : Int) ≤ 9223372036854775807) ∧
                ∃ m, m < n29 ∧ I29 m (x25 + (1 : Int)) x26
              )
            ) ∧ ((¬ (x25 < (a1.length : Int))) →
              ∀ (_ : a1.length ≤ 9223372036854775807),
              ∃ I37 : Nat → Int → (List ref09_Row) → Prop,
              (∃ n, I37 n (0 : Int) x26) ∧
              ∀ (n37 : Nat) (x33 : Int) (x34 : (List ref09_Row)), I37 n37 x33 x34 →
                ((x33 < (a1.length : Int)) →
                  ((0 : Int) ≤ x33 ∧ x33 < (a1.length : Int)) ∧
                  ∀ (x38 : ref09_Row), x38 = (a1.getD (Int.toNat x33) d_ref09_Row) →
                  ((0 : Int) ≤ a2 ∧ a2 < (x38.1.1.length : Int)) ∧
                  (((gI x38.1.1 a2) ≤ (0 : Int)) →
                    (-9223372036854775808 ≤ x33 + (1 : Int) ∧ x33 + (1 : Int) ≤ 9223372036854775807) ∧
                    ∃ m, m < n37 ∧ I37 m (x33 + (1 : Int)) x34
                  ) ∧ ((¬ ((gI x38.1.1 a2) ≤ (0 : Int))) →
                    ∀ (_ : a1.length ≤ 9223372036854775807),
                    ∃ I45 : Nat → Int → (List ref09_Row) → Prop,
                    (∃ n, I45 n (0 : Int) x34) ∧
                    ∀ (n45 : Nat) (x41 : Int) (x42 : (List ref09_Row)), I45 n45 x41 x42 →
                      ((x41 < (a1.length : Int)) →
                        ((0 : Int) ≤ x41 ∧ x41 < (a1.length : Int)) ∧
                        ∀ (x46 : ref09_Row), x46 = (a1.getD (Int.toNat x41) d_ref09_Row) →
                        ((0 : Int) ≤ a2 ∧ a2 < (x46.1.1.length : Int)) ∧
                        (((gI x46.1.1 a2) < (0 : Int)) →
                          ((0 : Int) ≤ a2 ∧ a2 < (x46.1.1.length : Int)) ∧
                          (-9223372036854775808 ≤ -(gI x46.1.1 a2) ∧ -(gI x46.1.1 a2) ≤ 9223372036854775807) ∧
                          ((0 : Int) ≤ a2 ∧ a2 < (x38.1.1.length : Int)) ∧
                          (ref09_mix.pre (-(gI x46.1.1 a2)) x38 (gI x38.1.1 a2) x46) ∧
                          ((x42.length + [ref09_mix.fn (-(gI x46.1.1 a2)) x38 (gI x38.1.1 a2) x46].length) * 64 ≤ 140737488355328 ∧ x42.length + [ref09_mix.fn (-(gI x46.1.1 a2)) x38 (gI x38.1.1 a2) x46].length ≤ 9223372036854775807) ∧
                          ∀ (x47 : (List ref09_Row)), x47 = (x42 ++ [ref09_mix.fn (-(gI x46.1.1 a2)) x38 (gI x38.1.1 a2) x46]) →
                          (-9223372036854775808 ≤ x41 + (1 : Int) ∧ x41 + (1 : Int) ≤ 9223372036854775807) ∧
                          ∃ m, m < n45 ∧ I45 m (x41 + (1 : Int)) x47
                        ) ∧ ((¬ ((gI x46.1.1 a2) < (0 : Int))) →
                          (-9223372036854775808 ≤ x41 + (1 : Int) ∧ x41 + (1 : Int) ≤ 9223372036854775807) ∧
                          ∃ m, m < n45 ∧ I45 m (x41 + (1 : Int)) x42
                        )
                      ) ∧ ((¬ (x41 < (a1.length : Int))) →
                        (-9223372036854775808 ≤ x33 + (1 : Int) ∧ x33 + (1 : Int) ≤ 9223372036854775807) ∧
                        ∃ m, m < n37 ∧ I37 m (x33 + (1 : Int)) x42
                      )
                  )
                ) ∧ ((¬ (x33 < (a1.length : Int))) →
                  R10 x34
                )
            )
        )
      ) ∧
      ∀ (x9 : (List ref09_Row)), R10 x9 →
        ∀ (_ : x9.length ≤ 9223372036854775807),
        ∃ I54 : Nat → Int → (List ref09_Row) → Prop,
        (∃ n, I54 n (0 : Int) ([] : List ref09_Row)) ∧
        ∀ (n54 : Nat) (x50 : Int) (x51 : (List ref09_Row)), I54 n54 x50 x51 →
          ((x50 < (x9.length : Int)) →
            ((0 : Int) ≤ x50 ∧ x50 < (x9.length : Int)) ∧
            ∀ (x55 : ref09_Row), x55 = (x9.getD (Int.toNat x50) d_ref09_Row) →
            ∃ I62 : Nat → Bool → Int → Prop,
            (∃ n, I62 n false (0 : Int)) ∧
            ∀ (n62 : Nat) (x58 : Bool) (x59 : Int), I62 n62 x58 x59 →
              ((x59 < (x51.length : Int)) →
                ((0 : Int) ≤ x59 ∧ x59 < (x51.length : Int)) ∧
                (Int.toNat x59 < x51.length) ∧
                ∀ (x63 : ref09_Row), x63 = (x51.getD (Int.toNat x59) d_ref09_Row) →
                ((!x58) = true → ref09_same.pre x55 x63) ∧
                (-9223372036854775808 ≤ x59 + (1 : Int) ∧ x59 + (1 : Int) ≤ 9223372036854775807) ∧
                ∃ m, m < n62 ∧ I62 m (x58 || (ref09_same.fn x55 x63)) (x59 + (1 : Int))
              ) ∧ ((¬ (x59 < (x51.length : Int))) →
                ((x58 = false) →
                  ((x51.length + [x55].length) * 64 ≤ 140737488355328 ∧ x51.length + [x55].length ≤ 9223372036854775807) ∧
                  ((((x51 ++ [x55]).length : Int) > (400 : Int)) →
                    Q (([] : List ref09_Row), 3)
                  ) ∧ ((¬ (((x51 ++ [x55]).length : Int) > (400 : Int))) →
                    (-9223372036854775808 ≤ x50 + (1 : Int) ∧ x50 + (1 : Int) ≤ 9223372036854775807) ∧
                    ∃ m, m < n54 ∧ I54 m (x50 + (1 : Int)) (x51 ++ [x55])
                  )
                ) ∧ ((x58 = true) →
                  (((x51.length : Int) > (400 : Int)) →
                    Q (([] : List ref09_Row), 3)
                  ) ∧ ((¬ ((x51.length : Int) > (400 : Int))) →
                    (-9223372036854775808 ≤ x50 + (1 : Int) ∧ x50 + (1 : Int) ≤ 9223372036854775807) ∧
                    ∃ m, m < n54 ∧ I54 m (x50 + (1 : Int)) x51
                  )
                )
              )
          ) ∧ ((¬ (x50 < (x9.length : Int))) →
            ∃ I67 : Nat → Int → Prop,
            (∃ n, I67 n (0 : Int)) ∧
            ∀ (n67 : Nat) (x65 : Int), I67 n67 x65 →
              ((x65 < (x51.length : Int)) →
                ((0 : Int) ≤ x65 ∧ x65 < (x51.length : Int)) ∧
                (Int.toNat x65 < x51.length) ∧
                ∀ (x68 : ref09_Row), x68 = (x51.getD (Int.toNat x65) d_ref09_Row) →
                (ref09_Row_numbers.pre x68) ∧
                ∀ (x69 : (List Int)), x69 = (ref09_Row_numbers.fn x68) →
                ∀ (x70 : Int), x70 = (x69.length : Int) →
                ∀ (_ : x69.length ≤ 9223372036854775807),
                ∃ I74 : Nat → Int → Prop,
                (∃ n, I74 n (0 : Int)) ∧
                ∀ (n74 : Nat) (x72 : Int), I74 n74 x72 →
                  ((x72 < x70) →
                    ((0 : Int) ≤ x72 ∧ x72 < (x69.length : Int)) ∧
                    ((((decide ((gI x69 x72) < (-1073741824))) || (decide ((gI x69 x72) > (1073741824 : Int)))) = true) →
                      Q (([] : List ref09_Row), 3)
                    ) ∧ ((((decide ((gI x69 x72) < (-1073741824))) || (decide ((gI x69 x72) > (1073741824 : Int)))) = false) →
                      (-9223372036854775808 ≤ x72 + (1 : Int) ∧ x72 + (1 : Int) ≤ 9223372036854775807) ∧
                      ∃ m, m < n74 ∧ I74 m (x72 + (1 : Int))
                    )
                  ) ∧ ((¬ (x72 < x70)) →
                    (-9223372036854775808 ≤ x65 + (1 : Int) ∧ x65 + (1 : Int) ≤ 9223372036854775807) ∧
                    ∃ m, m < n67 ∧ I67 m (x65 + (1 : Int))
                  )
              ) ∧ ((¬ (x65 < (x51.length : Int))) →
                Q (x51, 0)
              )
          )
    )

def ref09_stack.wp (a1 : (List api_Cond)) (a2 : Int) (Q : (List (List ref09_Row)) × (List ref09_Row) × Int → Prop) : Prop :=
  ∀ (_ : a1.length ≤ 9223372036854775807),
  ∃ I7 : Nat → Int → (List ref09_Row) → Prop,
  (∃ n, I7 n (0 : Int) ([] : List ref09_Row)) ∧
  ∀ (n7 : Nat) (x3 : Int) (x4 : (List ref09_Row)), I7 n7 x3 x4 →
    ((x3 < (a1.length : Int)) →
      ((0 : Int) ≤ x3 ∧ x3 < (a1.length : Int)) ∧
      ∀ (x8 : api_Cond), x8 = (a1.getD (Int.toNat x3) d_api_Cond) →
      ((x8.1 = (2 : Int)) →
        (-9223372036854775808 ≤ x3 + (1 : Int) ∧ x3 + (1 : Int) ≤ 9223372036854775807) ∧
        ∃ m, m < n7 ∧ I7 m (x3 + (1 : Int)) x4
      ) ∧ ((x8.1 ≠ (2 : Int)) →
        ((0 : Int) ≤ (a1.length : Int) ∧ (a1.length : Int) ≤ (a1.length : Int) ∧ (a1.length : Int) * 8 ≤ 140737488355328 ∧ (a1.length : Int) ≤ 9223372036854775807) ∧
        ∀ (x9 : (List Int)), x9 = (List.replicate (Int.toNat (a1.length : Int)) (0 : Int)) →
        ∀ (_ : a1.length ≤ 9223372036854775807),
        ((0 : Int) ≤ x3 ∧ x3 < (x9.length : Int)) ∧
        (Int.toNat x3 < x9.length) ∧
        ∀ (x10 : (List Int)), x10 = (x9.set (Int.toNat x3) (1 : Int)) →
        ((x4.length + [(x8.2.2, x8.1 == (1 : Int), x10)].length) * 64 ≤ 140737488355328 ∧ x4.length + [(x8.2.2, x8.1 == (1 : Int), x10)].length ≤ 9223372036854775807) ∧
        ∀ (x11 : (List ref09_Row)), x11 = (x4 ++ [(x8.2.2, x8.1 == (1 : Int), x10)]) →
        (-9223372036854775808 ≤ x3 + (1 : Int) ∧ x3 + (1 : Int) ≤ 9223372036854775807) ∧
        ∃ m, m < n7 ∧ I7 m (x3 + (1 : Int)) x11
      )
    ) ∧ ((¬ (x3 < (a1.length : Int))) →
      ((0 : Int) ≤ a2 ∧ a2 ≤ a2 ∧ a2 * 24 ≤ 140737488355328 ∧ a2 ≤ 9223372036854775807) ∧
      ∀ (x12 : (List (List ref09_Row))), x12 = (List.replicate (Int.toNat a2) []) →
      (-9223372036854775808 ≤ a2 - (1 : Int) ∧ a2 - (1 : Int) ≤ 9223372036854775807) ∧
      ∃ I19 : Nat → (List ref09_Row) → Int → (List (List ref09_Row)) → Prop,
      (∃ n, I19 n x4 (a2 - (1 : Int)) x12) ∧
      ∀ (n19 : Nat) (x13 : (List ref09_Row)) (x14 : Int) (x15 : (List (List ref09_Row))), I19 n19 x13 x14 x15 →
        ((x14 ≥ (0 : Int)) →
          ((0 : Int) ≤ x14 ∧ x14 < (x15.length : Int)) ∧
          (Int.toNat x14 < x15.length) ∧
          (ref09_Eliminate.pre x13 x14) ∧
          ∀ (x20 : (List ref09_Row) × Int), x20 = (ref09_Eliminate.fn x13 x14) →
          ((x20.2 ≠ (0 : Int)) →
            Q (([] : List (List ref09_Row)), ([] : List ref09_Row), x20.2)
          ) ∧ ((x20.2 = (0 : Int)) →
            (-9223372036854775808 ≤ x14 - (1 : Int) ∧ x14 - (1 : Int) ≤ 9223372036854775807) ∧
            ∃ m, m < n19 ∧ I19 m x20.1 (x14 - (1 : Int)) (x15.set (Int.toNat x14) x13)
          )
        ) ∧ ((¬ (x14 ≥ (0 : Int))) →
          Q (x15, x13, 0)
        )
    )

def ref09_Prove.wp (a1 : (List api_Cond)) (a2 : Int) (Q : (List Int) × Int → Prop) : Prop :=
  ∀ (x1 : Int), x1 = (ref09_asked.fn a1 a2) →
  ((x1 ≠ (0 : Int)) →
    Q (([] : List Int), x1)
  ) ∧ ((x1 = (0 : Int)) →
    (ref09_stack.pre a1 a2) ∧
    ∀ (x2 : (List (List ref09_Row)) × (List ref09_Row) × Int), x2 = (ref09_stack.fn a1 a2) →
    ((x2.2.2 ≠ (0 : Int)) →
      Q (([] : List Int), x2.2.2)
    ) ∧ ((x2.2.2 = (0 : Int)) →
      (ref09_refuted.pre x2.2.1) ∧
      ∀ (x3 : (List Int) × Bool), x3 = (ref09_refuted.fn x2.2.1) →
      ((x3.2 = false) →
        Q (([] : List Int), 5)
      ) ∧ ((x3.2 = true) →
        Q (x3.1, 0)
      )
    )
  )

def ref09_Empty.wp (a1 : api_Set) (Q : (List (List Int)) × Int → Prop) : Prop :=
  (((ref04_Valid.fn a1) = false) →
    Q (([] : List (List Int)), 1)
  ) ∧ (((ref04_Valid.fn a1) = true) →
    ∀ (_ : a1.2.length ≤ 9223372036854775807),
    ∃ I7 : Nat → Int → (List (List Int)) → Prop,
    (∃ n, I7 n (0 : Int) ([] : List (List Int))) ∧
    ∀ (n7 : Nat) (x3 : Int) (x4 : (List (List Int))), I7 n7 x3 x4 →
      ((x3 < (a1.2.length : Int)) →
        ((0 : Int) ≤ x3 ∧ x3 < (a1.2.length : Int)) ∧
        ∀ (x8 : (List Int) × Int), x8 = (ref09_Prove.fn (a1.2.getD (Int.toNat x3) []) a1.1) →
        ∀ (x9 : (List Int)), x9 = x8.1 →
        ∀ (x10 : Int), x10 = x8.2 →
        ((x10 ≠ (0 : Int)) →
          Q (([] : List (List Int)), x10)
        ) ∧ ((x10 = (0 : Int)) →
          ((x4.length + [x9].length) * 24 ≤ 140737488355328 ∧ x4.length + [x9].length ≤ 9223372036854775807) ∧
          (-9223372036854775808 ≤ x3 + (1 : Int) ∧ x3 + (1 : Int) ≤ 9223372036854775807) ∧
          ∃ m, m < n7 ∧ I7 m (x3 + (1 : Int)) (x4 ++ [x9])
        )
      ) ∧ ((¬ (x3 < (a1.2.length : Int))) →
        Q (x4, 0)
      )
  )

def law09_FarkasEmpty.wp (a1 : api_Set) (Q : Bool → Prop) : Prop :=
  (law04_Few.pre (6 : Int) (10 : Int) [a1]) ∧
  (((law04_Few.fn (6 : Int) (10 : Int) [a1]) = false) →
    (law09_awake.pre) ∧
    Q law09_awake.fn
  ) ∧ (((law04_Few.fn (6 : Int) (10 : Int) [a1]) = true) →
    ∀ (x1 : (List (List Int)) × Int), x1 = (farkas_Empty.fn a1) →
    ∀ (x2 : (List (List Int)) × Int), x2 = (ref09_Empty.fn a1) →
    ((((x1.2 != x2.2) || ((x1.1.length : Int) != (x2.1.length : Int))) = true) →
      Q false
    ) ∧ ((((x1.2 != x2.2) || ((x1.1.length : Int) != (x2.1.length : Int))) = false) →
      ∀ (_ : x1.1.length ≤ 9223372036854775807),
      ∃ I6 : Nat → Int → Prop,
      (∃ n, I6 n (0 : Int)) ∧
      ∀ (n6 : Nat) (x4 : Int), I6 n6 x4 →
        ((x4 < (x1.1.length : Int)) →
          ((0 : Int) ≤ x4 ∧ x4 < (x1.1.length : Int)) ∧
          ((0 : Int) ≤ x4 ∧ x4 < (x2.1.length : Int)) ∧
          (((law09_list.fn (x1.1.getD (Int.toNat x4) []) (x2.1.getD (Int.toNat x4) [])) = false) →
            Q false
          ) ∧ (((law09_list.fn (x1.1.getD (Int.toNat x4) []) (x2.1.getD (Int.toNat x4) [])) = true) →
            (-9223372036854775808 ≤ x4 + (1 : Int) ∧ x4 + (1 : Int) ≤ 9223372036854775807) ∧
            ∃ m, m < n6 ∧ I6 m (x4 + (1 : Int))
          )
        ) ∧ ((¬ (x4 < (x1.1.length : Int))) →
          (law09_awake.pre) ∧
          Q law09_awake.fn
        )
    )
  )

end Go.Proofs.Ytlncingakpelbaa
