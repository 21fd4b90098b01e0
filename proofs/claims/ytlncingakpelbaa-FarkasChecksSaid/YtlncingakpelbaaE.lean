/- Part of a proof that a law of the program holds for every input: printed by a program of this work. No conditions. -/
import Derived.Test.YtlncingakpelbaaD
namespace Go.Proofs.Ytlncingakpelbaa
open Go
set_option linter.unusedVariables false
set_option maxHeartbeats 4000000

def farkas_first.ev (a1 : (List api_Cond)) (a2 : Int) : Option (farkas_table) :=
  evRec (fun _ _ => none) (fun iI7 (x3 : Int) (x4 : (List farkas_row)) =>
    if x3 < (a1.length : Int) then
      if (0 : Int) ≤ x3 ∧ x3 < (a1.length : Int) then
        evJ ((a1.getD (Int.toNat x3) d_api_Cond) : api_Cond) fun (x8 : api_Cond) =>
        if x8.1 = (2 : Int) then
          if -9223372036854775808 ≤ x3 + (1 : Int) ∧ x3 + (1 : Int) ≤ 9223372036854775807 then
            iI7 (x3 + (1 : Int)) x4
          else none
        else
          if -9223372036854775808 ≤ a2 + (1 : Int) ∧ a2 + (1 : Int) ≤ 9223372036854775807 then
            if -9223372036854775808 ≤ (a2 + (1 : Int)) + (a1.length : Int) ∧ (a2 + (1 : Int)) + (a1.length : Int) ≤ 9223372036854775807 then
              if (0 : Int) ≤ ((a2 + (1 : Int)) + (a1.length : Int)) ∧ ((a2 + (1 : Int)) + (a1.length : Int)) ≤ ((a2 + (1 : Int)) + (a1.length : Int)) ∧ ((a2 + (1 : Int)) + (a1.length : Int)) * 8 ≤ 140737488355328 ∧ ((a2 + (1 : Int)) + (a1.length : Int)) ≤ 9223372036854775807 then
                evJ ((List.replicate (Int.toNat ((a2 + (1 : Int)) + (a1.length : Int))) (0 : Int)) : (List Int)) fun (x9 : (List Int)) =>
                evJ ((x8.2.2.1.take (min x8.2.2.1.length x9.length) ++ x9.drop (min x8.2.2.1.length x9.length)) : (List Int)) fun (x10 : (List Int)) =>
                if -9223372036854775808 ≤ a2 + (1 : Int) ∧ a2 + (1 : Int) ≤ 9223372036854775807 then
                  if -9223372036854775808 ≤ (a2 + (1 : Int)) + x3 ∧ (a2 + (1 : Int)) + x3 ≤ 9223372036854775807 then
                    if (0 : Int) ≤ a2 ∧ a2 < (x10.length : Int) then
                      if Int.toNat a2 < x10.length then
                        if (0 : Int) ≤ ((a2 + (1 : Int)) + x3) ∧ ((a2 + (1 : Int)) + x3) < ((x10.set (Int.toNat a2) x8.2.2.2).length : Int) then
                          if Int.toNat ((a2 + (1 : Int)) + x3) < (x10.set (Int.toNat a2) x8.2.2.2).length then
                            evJ (((x10.set (Int.toNat a2) x8.2.2.2).set (Int.toNat ((a2 + (1 : Int)) + x3)) (1 : Int)) : (List Int)) fun (x11 : (List Int)) =>
                            if (x4.length + [(x8.1 == (1 : Int), x11)].length) * 32 ≤ 140737488355328 ∧ x4.length + [(x8.1 == (1 : Int), x11)].length ≤ 9223372036854775807 then
                              evJ ((x4 ++ [(x8.1 == (1 : Int), x11)]) : (List farkas_row)) fun (x12 : (List farkas_row)) =>
                              if -9223372036854775808 ≤ x3 + (1 : Int) ∧ x3 + (1 : Int) ≤ 9223372036854775807 then
                                iI7 (x3 + (1 : Int)) x12
                              else none
                            else none
                          else none
                        else none
                      else none
                    else none
                  else none
                else none
              else none
            else none
          else none
      else none
    else
      some (a2, x4)
  ) 100000 (0 : Int) ([] : List farkas_row)
def farkas_first.fn (a1 : (List api_Cond)) (a2 : Int) : farkas_table := (farkas_first.ev a1 a2).getD d_farkas_table
abbrev farkas_first.pre (a1 : (List api_Cond)) (a2 : Int) : Prop := (farkas_first.ev a1 a2).isSome = true

def farkas_vector_int_by.ev (a1 : (List Int)) (a2 : Int) : Option ((List Int)) :=
  if (0 : Int) ≤ (a1.length : Int) ∧ (a1.length : Int) ≤ (a1.length : Int) ∧ (a1.length : Int) * 8 ≤ 140737488355328 ∧ (a1.length : Int) ≤ 9223372036854775807 then
    evJ ((List.replicate (Int.toNat (a1.length : Int)) (0 : Int)) : (List Int)) fun (x1 : (List Int)) =>
    evJ ((a1.take (min a1.length x1.length) ++ x1.drop (min a1.length x1.length)) : (List Int)) fun (x2 : (List Int)) =>
    evRec (fun _ _ => none) (fun iI9 (x5 : Int) (x6 : (List Int)) =>
      if x5 < (x2.length : Int) then
        if (0 : Int) ≤ x5 ∧ x5 < (x6.length : Int) then
          if Int.toNat x5 < x6.length then
            if a2 ≠ 0 ∧ -9223372036854775808 ≤ Int.tdiv (x6.getD (Int.toNat x5) (0 : Int)) a2 ∧ Int.tdiv (x6.getD (Int.toNat x5) (0 : Int)) a2 ≤ 9223372036854775807 then
              if (0 : Int) ≤ x5 ∧ x5 < (x6.length : Int) then
                if Int.toNat x5 < x6.length then
                  evJ ((x6.set (Int.toNat x5) (Int.tdiv (x6.getD (Int.toNat x5) (0 : Int)) a2)) : (List Int)) fun (x10 : (List Int)) =>
                  if -9223372036854775808 ≤ x5 + (1 : Int) ∧ x5 + (1 : Int) ≤ 9223372036854775807 then
                    iI9 (x5 + (1 : Int)) x10
                  else none
                else none
              else none
            else none
          else none
        else none
      else
        some x6
    ) 100000 (0 : Int) x2
  else none
def farkas_vector_int_by.fn (a1 : (List Int)) (a2 : Int) : (List Int) := (farkas_vector_int_by.ev a1 a2).getD []
abbrev farkas_vector_int_by.pre (a1 : (List Int)) (a2 : Int) : Prop := (farkas_vector_int_by.ev a1 a2).isSome = true

def num_common.ev (a1 : Int) (a2 : Int) : Option (Int) :=
  evRec (fun _ _ => none) (fun iI7 (x3 : Int) (x4 : Int) =>
    if x4 > (0 : Int) then
      if x4 ≠ 0 then
        iI7 x4 (Int.tmod x3 x4)
      else none
    else
      some x3
  ) 100000 a1 a2
def num_common.fn (a1 : Int) (a2 : Int) : Int := (num_common.ev a1 a2).getD (0 : Int)
abbrev num_common.pre (a1 : Int) (a2 : Int) : Prop := (num_common.ev a1 a2).isSome = true

def num_size.ev (a1 : Int) : Option (Int) :=
  if a1 < (0 : Int) then
    evJ ((IntKind.wrap .u64 (-(IntKind.wrap .u64 a1))) : Int) fun (x1 : Int) =>
    some x1
  else
    some (IntKind.wrap .u64 a1)
def num_size.fn (a1 : Int) : Int := (num_size.ev a1).getD (0 : Int)
abbrev num_size.pre (a1 : Int) : Prop := (num_size.ev a1).isSome = true

def num_Gcd_1.ev (a1 : Int) (a2 : Int) : Option (Int) :=
  (num_size.ev a2).bind fun y1 =>
  (num_common.ev a1 y1).bind fun y2 =>
  evJ (y1 : Int) fun (x1 : Int) =>
  evJ ((num_common.fn a1 x1) : Int) fun (x2 : Int) =>
  some x2
def num_Gcd_1.fn (a1 : Int) (a2 : Int) : Int := (num_Gcd_1.ev a1 a2).getD (0 : Int)
abbrev num_Gcd_1.pre (a1 : Int) (a2 : Int) : Prop := (num_Gcd_1.ev a1 a2).isSome = true

def num_fold_uint64__num_Gcd_1.ev (a1 : (List Int)) (a2 : Int) : Option (Int) :=
  evRec (fun _ _ => none) (fun iI7 (x3 : Int) (x4 : Int) =>
    if x4 < (a1.length : Int) then
      if (0 : Int) ≤ x4 ∧ x4 < (a1.length : Int) then
        (num_Gcd_1.ev x3 (gI a1 x4)).bind fun y1 =>
        evJ (y1 : Int) fun (x8 : Int) =>
        if -9223372036854775808 ≤ x4 + (1 : Int) ∧ x4 + (1 : Int) ≤ 9223372036854775807 then
          iI7 x8 (x4 + (1 : Int))
        else none
      else none
    else
      some x3
  ) 100000 a2 (0 : Int)
def num_fold_uint64__num_Gcd_1.fn (a1 : (List Int)) (a2 : Int) : Int := (num_fold_uint64__num_Gcd_1.ev a1 a2).getD (0 : Int)
abbrev num_fold_uint64__num_Gcd_1.pre (a1 : (List Int)) (a2 : Int) : Prop := (num_fold_uint64__num_Gcd_1.ev a1 a2).isSome = true

def num_Gcd.ev (a1 : (List Int)) : Option (Int × Int) :=
  (num_fold_uint64__num_Gcd_1.ev a1 (0 : Int)).bind fun y1 =>
  evJ (y1 : Int) fun (x1 : Int) =>
  if x1 > (9223372036854775807 : Int) then
    some (0, 3)
  else
    if -9223372036854775808 ≤ x1 ∧ x1 ≤ 9223372036854775807 then
      some (x1, 0)
    else none
def num_Gcd.fn (a1 : (List Int)) : Int × Int := (num_Gcd.ev a1).getD ((0 : Int), (0 : Int))
abbrev num_Gcd.pre (a1 : (List Int)) : Prop := (num_Gcd.ev a1).isSome = true

def farkas_row_reduced.ev (a1 : farkas_row) : Option (farkas_row) :=
  (num_Gcd.ev a1.2).bind fun y1 =>
  evJ (y1 : Int × Int) fun (x1 : Int × Int) =>
  if x1.1 > (1 : Int) then
    (farkas_vector_int_by.ev a1.2 x1.1).bind fun y2 =>
    evJ (y2 : (List Int)) fun (x2 : (List Int)) =>
    some (a1.1, x2)
  else
    some a1
def farkas_row_reduced.fn (a1 : farkas_row) : farkas_row := (farkas_row_reduced.ev a1).getD d_farkas_row
abbrev farkas_row_reduced.pre (a1 : farkas_row) : Prop := (farkas_row_reduced.ev a1).isSome = true

def slices_Equal_farkas_vector_int_int.ev (a1 : (List Int)) (a2 : (List Int)) : Option (Bool) :=
  if (a1.length : Int) ≠ (a2.length : Int) then
    some false
  else
    evRec (fun _ => none) (fun iI4 (x2 : Int) =>
      if x2 < (a1.length : Int) then
        if (0 : Int) ≤ x2 ∧ x2 < (a1.length : Int) then
          if (0 : Int) ≤ x2 ∧ x2 < (a2.length : Int) then
            if (gI a1 x2) ≠ (gI a2 x2) then
              some false
            else
              if -9223372036854775808 ≤ x2 + (1 : Int) ∧ x2 + (1 : Int) ≤ 9223372036854775807 then
                iI4 (x2 + (1 : Int))
              else none
          else none
        else none
      else
        some true
    ) 100000 (0 : Int)
def slices_Equal_farkas_vector_int_int.fn (a1 : (List Int)) (a2 : (List Int)) : Bool := (slices_Equal_farkas_vector_int_int.ev a1 a2).getD false
abbrev slices_Equal_farkas_vector_int_int.pre (a1 : (List Int)) (a2 : (List Int)) : Prop := (slices_Equal_farkas_vector_int_int.ev a1 a2).isSome = true

def farkas_table_kept_1.ev (a1 : farkas_row) (a2 : Bool) (a3 : (List Int)) (a4 : Int) (a5 : (List farkas_row)) : Option (Bool) :=
  if (a1.1 == a2) = true → -9223372036854775808 ≤ a4 + (1 : Int) ∧ a4 + (1 : Int) ≤ 9223372036854775807 then
    if (a1.1 == a2) = true → (0 : Int) ≤ (a4 + (1 : Int)) ∧ (a4 + (1 : Int)) ≤ (a1.2.length : Int) then
      if (a1.1 == a2) = true → -9223372036854775808 ≤ a4 + (1 : Int) ∧ a4 + (1 : Int) ≤ 9223372036854775807 then
        if (a1.1 == a2) = true → (0 : Int) ≤ (a4 + (1 : Int)) ∧ (a4 + (1 : Int)) ≤ (a3.length : Int) then
          if (a1.1 == a2) = true → slices_Equal_farkas_vector_int_int.pre (a1.2.take (Int.toNat (a4 + (1 : Int)))) (a3.take (Int.toNat (a4 + (1 : Int)))) then
            some ((a1.1 == a2) && (slices_Equal_farkas_vector_int_int.fn (a1.2.take (Int.toNat (a4 + (1 : Int)))) (a3.take (Int.toNat (a4 + (1 : Int))))))
          else none
        else none
      else none
    else none
  else none
def farkas_table_kept_1.fn (a1 : farkas_row) (a2 : Bool) (a3 : (List Int)) (a4 : Int) (a5 : (List farkas_row)) : Bool := (farkas_table_kept_1.ev a1 a2 a3 a4 a5).getD false
abbrev farkas_table_kept_1.pre (a1 : farkas_row) (a2 : Bool) (a3 : (List Int)) (a4 : Int) (a5 : (List farkas_row)) : Prop := (farkas_table_kept_1.ev a1 a2 a3 a4 a5).isSome = true

def slices_IndexFunc_Sfarkas_row_farkas_row__farkas_table_kept_1.ev (a1 : (List farkas_row)) (a2 : Bool) (a3 : (List Int)) (a4 : Int) (a5 : (List farkas_row)) : Option (Int) :=
  evRec (fun _ => none) (fun iI4 (x2 : Int) =>
    if x2 < (a1.length : Int) then
      if (0 : Int) ≤ x2 ∧ x2 < (a1.length : Int) then
        (farkas_table_kept_1.ev (a1.getD (Int.toNat x2) d_farkas_row) a2 a3 a4 a5).bind fun y1 =>
        if y1 = true then
          some x2
        else
          if -9223372036854775808 ≤ x2 + (1 : Int) ∧ x2 + (1 : Int) ≤ 9223372036854775807 then
            iI4 (x2 + (1 : Int))
          else none
      else none
    else
      some (-1)
  ) 100000 (0 : Int)
def slices_IndexFunc_Sfarkas_row_farkas_row__farkas_table_kept_1.fn (a1 : (List farkas_row)) (a2 : Bool) (a3 : (List Int)) (a4 : Int) (a5 : (List farkas_row)) : Int := (slices_IndexFunc_Sfarkas_row_farkas_row__farkas_table_kept_1.ev a1 a2 a3 a4 a5).getD (0 : Int)
abbrev slices_IndexFunc_Sfarkas_row_farkas_row__farkas_table_kept_1.pre (a1 : (List farkas_row)) (a2 : Bool) (a3 : (List Int)) (a4 : Int) (a5 : (List farkas_row)) : Prop := (slices_IndexFunc_Sfarkas_row_farkas_row__farkas_table_kept_1.ev a1 a2 a3 a4 a5).isSome = true

def slices_ContainsFunc_Sfarkas_row_farkas_row__farkas_table_kept_1.ev (a1 : (List farkas_row)) (a2 : Bool) (a3 : (List Int)) (a4 : Int) (a5 : (List farkas_row)) : Option (Bool) :=
  (slices_IndexFunc_Sfarkas_row_farkas_row__farkas_table_kept_1.ev a1 a2 a3 a4 a5).bind fun y1 =>
  evJ (y1 : Int) fun (x1 : Int) =>
  some (decide (x1 ≥ (0 : Int)))
def slices_ContainsFunc_Sfarkas_row_farkas_row__farkas_table_kept_1.fn (a1 : (List farkas_row)) (a2 : Bool) (a3 : (List Int)) (a4 : Int) (a5 : (List farkas_row)) : Bool := (slices_ContainsFunc_Sfarkas_row_farkas_row__farkas_table_kept_1.ev a1 a2 a3 a4 a5).getD false
abbrev slices_ContainsFunc_Sfarkas_row_farkas_row__farkas_table_kept_1.pre (a1 : (List farkas_row)) (a2 : Bool) (a3 : (List Int)) (a4 : Int) (a5 : (List farkas_row)) : Prop := (slices_ContainsFunc_Sfarkas_row_farkas_row__farkas_table_kept_1.ev a1 a2 a3 a4 a5).isSome = true

def farkas_table_kept_2.ev (a1 : Int) : Option (Bool) :=
  some ((decide (a1 < (-1073741824))) || (decide (a1 > (1073741824 : Int))))
def farkas_table_kept_2.fn (a1 : Int) : Bool := (farkas_table_kept_2.ev a1).getD false
abbrev farkas_table_kept_2.pre (a1 : Int) : Prop := (farkas_table_kept_2.ev a1).isSome = true

def slices_IndexFunc_farkas_vector_int_int__farkas_table_kept_2.ev (a1 : (List Int)) : Option (Int) :=
  evRec (fun _ => none) (fun iI4 (x2 : Int) =>
    if x2 < (a1.length : Int) then
      if (0 : Int) ≤ x2 ∧ x2 < (a1.length : Int) then
        (farkas_table_kept_2.ev (gI a1 x2)).bind fun y1 =>
        if y1 = true then
          some x2
        else
          if -9223372036854775808 ≤ x2 + (1 : Int) ∧ x2 + (1 : Int) ≤ 9223372036854775807 then
            iI4 (x2 + (1 : Int))
          else none
      else none
    else
      some (-1)
  ) 100000 (0 : Int)
def slices_IndexFunc_farkas_vector_int_int__farkas_table_kept_2.fn (a1 : (List Int)) : Int := (slices_IndexFunc_farkas_vector_int_int__farkas_table_kept_2.ev a1).getD (0 : Int)
abbrev slices_IndexFunc_farkas_vector_int_int__farkas_table_kept_2.pre (a1 : (List Int)) : Prop := (slices_IndexFunc_farkas_vector_int_int__farkas_table_kept_2.ev a1).isSome = true

def slices_ContainsFunc_farkas_vector_int_int__farkas_table_kept_2.ev (a1 : (List Int)) : Option (Bool) :=
  (slices_IndexFunc_farkas_vector_int_int__farkas_table_kept_2.ev a1).bind fun y1 =>
  evJ (y1 : Int) fun (x1 : Int) =>
  some (decide (x1 ≥ (0 : Int)))
def slices_ContainsFunc_farkas_vector_int_int__farkas_table_kept_2.fn (a1 : (List Int)) : Bool := (slices_ContainsFunc_farkas_vector_int_int__farkas_table_kept_2.ev a1).getD false
abbrev slices_ContainsFunc_farkas_vector_int_int__farkas_table_kept_2.pre (a1 : (List Int)) : Prop := (slices_ContainsFunc_farkas_vector_int_int__farkas_table_kept_2.ev a1).isSome = true

def farkas_table_kept.ev (a1 : farkas_table) (a2 : (List farkas_row)) : Option (farkas_table × Int) :=
  evRec (fun _ _ => none) (fun iI7 (x3 : Int) (x4 : (List farkas_row)) =>
    if x3 < (a2.length : Int) then
      if (0 : Int) ≤ x3 ∧ x3 < (a2.length : Int) then
        evJ ((a2.getD (Int.toNat x3) d_farkas_row) : farkas_row) fun (x8 : farkas_row) =>
        (farkas_row_reduced.ev x8).bind fun y1 =>
        evJ (y1 : farkas_row) fun (x9 : farkas_row) =>
        (slices_ContainsFunc_Sfarkas_row_farkas_row__farkas_table_kept_1.ev x4 x9.1 x9.2 a1.1 a1.2).bind fun y2 =>
        if y2 = false then
          if (x4.length + [x9].length) * 32 ≤ 140737488355328 ∧ x4.length + [x9].length ≤ 9223372036854775807 then
            if -9223372036854775808 ≤ x3 + (1 : Int) ∧ x3 + (1 : Int) ≤ 9223372036854775807 then
              iI7 (x3 + (1 : Int)) (x4 ++ [x9])
            else none
          else none
        else
          if -9223372036854775808 ≤ x3 + (1 : Int) ∧ x3 + (1 : Int) ≤ 9223372036854775807 then
            iI7 (x3 + (1 : Int)) x4
          else none
      else none
    else
      if (x4.length : Int) > (400 : Int) then
        some ((0, ([] : List farkas_row)), 3)
      else
        evRec (fun _ => none) (fun iI13 (x11 : Int) =>
          if x11 < (x4.length : Int) then
            if (0 : Int) ≤ x11 ∧ x11 < (x4.length : Int) then
              if Int.toNat x11 < x4.length then
                evJ ((x4.getD (Int.toNat x11) d_farkas_row) : farkas_row) fun (x14 : farkas_row) =>
                (slices_ContainsFunc_farkas_vector_int_int__farkas_table_kept_2.ev x14.2).bind fun y3 =>
                if y3 = true then
                  some ((0, ([] : List farkas_row)), 3)
                else
                  if -9223372036854775808 ≤ x11 + (1 : Int) ∧ x11 + (1 : Int) ≤ 9223372036854775807 then
                    iI13 (x11 + (1 : Int))
                  else none
              else none
            else none
          else
            some ((a1.1, x4), 0)
        ) 100000 (0 : Int)
  ) 100000 (0 : Int) ([] : List farkas_row)
def farkas_table_kept.fn (a1 : farkas_table) (a2 : (List farkas_row)) : farkas_table × Int := (farkas_table_kept.ev a1 a2).getD (d_farkas_table, (0 : Int))
abbrev farkas_table_kept.pre (a1 : farkas_table) (a2 : (List farkas_row)) : Prop := (farkas_table_kept.ev a1 a2).isSome = true

def farkas_table_solver.ev (a1 : farkas_table) (a2 : Int) : Option (Int) :=
  evRec (fun _ _ => none) (fun iI5 (x1 : Int) (x2 : Int) =>
    if x2 < (a1.2.length : Int) then
      if (0 : Int) ≤ x2 ∧ x2 < (a1.2.length : Int) then
        evJ ((a1.2.getD (Int.toNat x2) d_farkas_row) : farkas_row) fun (x6 : farkas_row) =>
        if x6.1 = true → (0 : Int) ≤ a2 ∧ a2 < (x6.2.length : Int) then
          if ((x6.1 && ((gI x6.2 a2) != (0 : Int))) && (!(decide (x1 < (0 : Int))))) = true → (0 : Int) ≤ a2 ∧ a2 < (x6.2.length : Int) then
            if ((x6.1 && ((gI x6.2 a2) != (0 : Int))) && (!(decide (x1 < (0 : Int))))) = true → (0 : Int) ≤ a2 ∧ a2 < (x6.2.length : Int) then
              if ((x6.1 && ((gI x6.2 a2) != (0 : Int))) && (!(decide (x1 < (0 : Int))))) = true → -9223372036854775808 ≤ -(gI x6.2 a2) ∧ -(gI x6.2 a2) ≤ 9223372036854775807 then
                if ((x6.1 && ((gI x6.2 a2) != (0 : Int))) && (!(decide (x1 < (0 : Int))))) = true → (0 : Int) ≤ x1 ∧ x1 < (a1.2.length : Int) then
                  if ((x6.1 && ((gI x6.2 a2) != (0 : Int))) && (!(decide (x1 < (0 : Int))))) = true → (0 : Int) ≤ a2 ∧ a2 < (((a1.2.getD (Int.toNat x1) d_farkas_row).2).length : Int) then
                    if ((x6.1 && ((gI x6.2 a2) != (0 : Int))) && (!(decide (x1 < (0 : Int))))) = true → (0 : Int) ≤ x1 ∧ x1 < (a1.2.length : Int) then
                      if ((x6.1 && ((gI x6.2 a2) != (0 : Int))) && (!(decide (x1 < (0 : Int))))) = true → (0 : Int) ≤ a2 ∧ a2 < (((a1.2.getD (Int.toNat x1) d_farkas_row).2).length : Int) then
                        if ((x6.1 && ((gI x6.2 a2) != (0 : Int))) && (!(decide (x1 < (0 : Int))))) = true → -9223372036854775808 ≤ -(gI ((a1.2.getD (Int.toNat x1) d_farkas_row).2) a2) ∧ -(gI ((a1.2.getD (Int.toNat x1) d_farkas_row).2) a2) ≤ 9223372036854775807 then
                          evJ ((if (-(gI ((a1.2.getD (Int.toNat x1) d_farkas_row).2) a2)) > (gI ((a1.2.getD (Int.toNat x1) d_farkas_row).2) a2) then (-(gI ((a1.2.getD (Int.toNat x1) d_farkas_row).2) a2)) else (gI ((a1.2.getD (Int.toNat x1) d_farkas_row).2) a2)) : Int) fun (x7 : Int) =>
                          if ((x6.1 && ((gI x6.2 a2) != (0 : Int))) && ((decide (x1 < (0 : Int))) || (decide ((if (-(gI x6.2 a2)) > (gI x6.2 a2) then (-(gI x6.2 a2)) else (gI x6.2 a2)) < x7)))) = true then
                            if -9223372036854775808 ≤ x2 + (1 : Int) ∧ x2 + (1 : Int) ≤ 9223372036854775807 then
                              iI5 x2 (x2 + (1 : Int))
                            else none
                          else
                            if -9223372036854775808 ≤ x2 + (1 : Int) ∧ x2 + (1 : Int) ≤ 9223372036854775807 then
                              iI5 x1 (x2 + (1 : Int))
                            else none
                        else none
                      else none
                    else none
                  else none
                else none
              else none
            else none
          else none
        else none
      else none
    else
      some x1
  ) 100000 (-1) (0 : Int)
def farkas_table_solver.fn (a1 : farkas_table) (a2 : Int) : Int := (farkas_table_solver.ev a1 a2).getD (0 : Int)
abbrev farkas_table_solver.pre (a1 : farkas_table) (a2 : Int) : Prop := (farkas_table_solver.ev a1 a2).isSome = true

def farkas_vector_int_sum.ev (a1 : (List Int)) (a2 : Int) (a3 : Int) (a4 : (List Int)) : Option ((List Int)) :=
  if (0 : Int) ≤ (a1.length : Int) ∧ (a1.length : Int) ≤ (a1.length : Int) ∧ (a1.length : Int) * 8 ≤ 140737488355328 ∧ (a1.length : Int) ≤ 9223372036854775807 then
    evJ ((List.replicate (Int.toNat (a1.length : Int)) (0 : Int)) : (List Int)) fun (x1 : (List Int)) =>
    evRec (fun _ _ => none) (fun iI8 (x4 : Int) (x5 : (List Int)) =>
      if x4 < (a1.length : Int) then
        if (0 : Int) ≤ x4 ∧ x4 < (a1.length : Int) then
          if -9223372036854775808 ≤ a2 * (gI a1 x4) ∧ a2 * (gI a1 x4) ≤ 9223372036854775807 then
            if (0 : Int) ≤ x4 ∧ x4 < (a4.length : Int) then
              if -9223372036854775808 ≤ a3 * (gI a4 x4) ∧ a3 * (gI a4 x4) ≤ 9223372036854775807 then
                if -9223372036854775808 ≤ (a2 * (gI a1 x4)) + (a3 * (gI a4 x4)) ∧ (a2 * (gI a1 x4)) + (a3 * (gI a4 x4)) ≤ 9223372036854775807 then
                  if (0 : Int) ≤ x4 ∧ x4 < (x5.length : Int) then
                    if Int.toNat x4 < x5.length then
                      evJ ((x5.set (Int.toNat x4) ((a2 * (gI a1 x4)) + (a3 * (gI a4 x4)))) : (List Int)) fun (x9 : (List Int)) =>
                      if -9223372036854775808 ≤ x4 + (1 : Int) ∧ x4 + (1 : Int) ≤ 9223372036854775807 then
                        iI8 (x4 + (1 : Int)) x9
                      else none
                    else none
                  else none
                else none
              else none
            else none
          else none
        else none
      else
        some x5
    ) 100000 (0 : Int) x1
  else none
def farkas_vector_int_sum.fn (a1 : (List Int)) (a2 : Int) (a3 : Int) (a4 : (List Int)) : (List Int) := (farkas_vector_int_sum.ev a1 a2 a3 a4).getD []
abbrev farkas_vector_int_sum.pre (a1 : (List Int)) (a2 : Int) (a3 : Int) (a4 : (List Int)) : Prop := (farkas_vector_int_sum.ev a1 a2 a3 a4).isSome = true

def farkas_table_without.ev (a1 : farkas_table) (a2 : Int) : Option (farkas_table × Int) :=
  (farkas_table_solver.ev a1 a2).bind fun y1 =>
  evJ (y1 : Int) fun (x1 : Int) =>
  if x1 ≥ (0 : Int) then
    if (0 : Int) ≤ x1 ∧ x1 < (a1.2.length : Int) then
      evJ ((a1.2.getD (Int.toNat x1) d_farkas_row) : farkas_row) fun (x2 : farkas_row) =>
      if (0 : Int) ≤ a2 ∧ a2 < (x2.2.length : Int) then
        evJ (fun (x3 : Int) (x4 : Int) =>
          evRec (fun _ _ => none) (fun iI12 (x8 : Int) (x9 : (List farkas_row)) =>
            if x8 < (a1.2.length : Int) then
              if (0 : Int) ≤ x8 ∧ x8 < (a1.2.length : Int) then
                evJ ((a1.2.getD (Int.toNat x8) d_farkas_row) : farkas_row) fun (x13 : farkas_row) =>
                if x8 = x1 then
                  if -9223372036854775808 ≤ x8 + (1 : Int) ∧ x8 + (1 : Int) ≤ 9223372036854775807 then
                    iI12 (x8 + (1 : Int)) x9
                  else none
                else
                  if (0 : Int) ≤ a2 ∧ a2 < (x13.2.length : Int) then
                    if (gI x13.2 a2) = (0 : Int) then
                      if (x9.length + [x13].length) * 32 ≤ 140737488355328 ∧ x9.length + [x13].length ≤ 9223372036854775807 then
                        if -9223372036854775808 ≤ x8 + (1 : Int) ∧ x8 + (1 : Int) ≤ 9223372036854775807 then
                          iI12 (x8 + (1 : Int)) (x9 ++ [x13])
                        else none
                      else none
                    else
                      if -9223372036854775808 ≤ -x3 ∧ -x3 ≤ 9223372036854775807 then
                        if (0 : Int) ≤ a2 ∧ a2 < (x13.2.length : Int) then
                          if -9223372036854775808 ≤ (-x3) * (gI x13.2 a2) ∧ (-x3) * (gI x13.2 a2) ≤ 9223372036854775807 then
                            (farkas_vector_int_sum.ev x13.2 x4 ((-x3) * (gI x13.2 a2)) x2.2).bind fun y2 =>
                            if (x9.length + [(x13.1, y2)].length) * 32 ≤ 140737488355328 ∧ x9.length + [(x13.1, y2)].length ≤ 9223372036854775807 then
                              evJ ((x9 ++ [(x13.1, y2)]) : (List farkas_row)) fun (x14 : (List farkas_row)) =>
                              if -9223372036854775808 ≤ x8 + (1 : Int) ∧ x8 + (1 : Int) ≤ 9223372036854775807 then
                                iI12 (x8 + (1 : Int)) x14
                              else none
                            else none
                          else none
                        else none
                      else none
                  else none
              else none
            else
              (farkas_table_kept.ev a1 x9).bind fun y3 =>
              evJ (y3 : farkas_table × Int) fun (x15 : farkas_table × Int) =>
              evJ (x15.1.1 : Int) fun (x16 : Int) =>
              evJ (x15.1.2 : (List farkas_row)) fun (x17 : (List farkas_row)) =>
              some ((x16, x17), x15.2)
          ) 100000 (0 : Int) ([] : List farkas_row)
        ) fun jR5 =>
        if (gI x2.2 a2) < (0 : Int) then
          if -9223372036854775808 ≤ -(gI x2.2 a2) ∧ -(gI x2.2 a2) ≤ 9223372036854775807 then
            jR5 (-1) (-(gI x2.2 a2))
          else none
        else
          jR5 (1 : Int) (gI x2.2 a2)
      else none
    else none
  else
    evRec (fun _ _ => none) (fun iI24 (x20 : Int) (x21 : (List farkas_row)) =>
      if x20 < (a1.2.length : Int) then
        if (0 : Int) ≤ x20 ∧ x20 < (a1.2.length : Int) then
          evJ ((a1.2.getD (Int.toNat x20) d_farkas_row) : farkas_row) fun (x25 : farkas_row) =>
          if (0 : Int) ≤ a2 ∧ a2 < (x25.2.length : Int) then
            if (gI x25.2 a2) = (0 : Int) then
              if (x21.length + [x25].length) * 32 ≤ 140737488355328 ∧ x21.length + [x25].length ≤ 9223372036854775807 then
                if -9223372036854775808 ≤ x20 + (1 : Int) ∧ x20 + (1 : Int) ≤ 9223372036854775807 then
                  iI24 (x20 + (1 : Int)) (x21 ++ [x25])
                else none
              else none
            else
              if -9223372036854775808 ≤ x20 + (1 : Int) ∧ x20 + (1 : Int) ≤ 9223372036854775807 then
                iI24 (x20 + (1 : Int)) x21
              else none
          else none
        else none
      else
        evRec (fun _ _ => none) (fun iI32 (x28 : Int) (x29 : (List farkas_row)) =>
          if x28 < (a1.2.length : Int) then
            if (0 : Int) ≤ x28 ∧ x28 < (a1.2.length : Int) then
              evJ ((a1.2.getD (Int.toNat x28) d_farkas_row) : farkas_row) fun (x33 : farkas_row) =>
              evRec (fun _ _ => none) (fun iI40 (x36 : Int) (x37 : (List farkas_row)) =>
                if x36 < (a1.2.length : Int) then
                  if (0 : Int) ≤ x36 ∧ x36 < (a1.2.length : Int) then
                    evJ ((a1.2.getD (Int.toNat x36) d_farkas_row) : farkas_row) fun (x41 : farkas_row) =>
                    if (0 : Int) ≤ a2 ∧ a2 < (x33.2.length : Int) then
                      if (decide ((gI x33.2 a2) > (0 : Int))) = true → (0 : Int) ≤ a2 ∧ a2 < (x41.2.length : Int) then
                        if ((decide ((gI x33.2 a2) > (0 : Int))) && (decide ((gI x41.2 a2) < (0 : Int)))) = true then
                          if (0 : Int) ≤ a2 ∧ a2 < (x41.2.length : Int) then
                            if -9223372036854775808 ≤ -(gI x41.2 a2) ∧ -(gI x41.2 a2) ≤ 9223372036854775807 then
                              if (0 : Int) ≤ a2 ∧ a2 < (x33.2.length : Int) then
                                (farkas_vector_int_sum.ev x33.2 (-(gI x41.2 a2)) (gI x33.2 a2) x41.2).bind fun y4 =>
                                if (x37.length + [(false, y4)].length) * 32 ≤ 140737488355328 ∧ x37.length + [(false, y4)].length ≤ 9223372036854775807 then
                                  evJ ((x37 ++ [(false, y4)]) : (List farkas_row)) fun (x42 : (List farkas_row)) =>
                                  if -9223372036854775808 ≤ x36 + (1 : Int) ∧ x36 + (1 : Int) ≤ 9223372036854775807 then
                                    iI40 (x36 + (1 : Int)) x42
                                  else none
                                else none
                              else none
                            else none
                          else none
                        else
                          if -9223372036854775808 ≤ x36 + (1 : Int) ∧ x36 + (1 : Int) ≤ 9223372036854775807 then
                            iI40 (x36 + (1 : Int)) x37
                          else none
                      else none
                    else none
                  else none
                else
                  if -9223372036854775808 ≤ x28 + (1 : Int) ∧ x28 + (1 : Int) ≤ 9223372036854775807 then
                    iI32 (x28 + (1 : Int)) x37
                  else none
              ) 100000 (0 : Int) x29
            else none
          else
            (farkas_table_kept.ev a1 x29).bind fun y5 =>
            evJ (y5 : farkas_table × Int) fun (x43 : farkas_table × Int) =>
            evJ (x43.2 : Int) fun (x44 : Int) =>
            evJ (x43.1.1 : Int) fun (x45 : Int) =>
            evJ (x43.1.2 : (List farkas_row)) fun (x46 : (List farkas_row)) =>
            some ((x45, x46), x44)
        ) 100000 (0 : Int) x21
    ) 100000 (0 : Int) ([] : List farkas_row)
def farkas_table_without.fn (a1 : farkas_table) (a2 : Int) : farkas_table × Int := (farkas_table_without.ev a1 a2).getD (d_farkas_table, (0 : Int))
abbrev farkas_table_without.pre (a1 : farkas_table) (a2 : Int) : Prop := (farkas_table_without.ev a1 a2).isSome = true

def farkas_eliminated.ev (a1 : (List api_Cond)) (a2 : Int) : Option ((List farkas_table) × Int) :=
  if -9223372036854775808 ≤ a2 + (1 : Int) ∧ a2 + (1 : Int) ≤ 9223372036854775807 then
    if (0 : Int) ≤ (a2 + (1 : Int)) ∧ (a2 + (1 : Int)) ≤ (a2 + (1 : Int)) ∧ (a2 + (1 : Int)) * 32 ≤ 140737488355328 ∧ (a2 + (1 : Int)) ≤ 9223372036854775807 then
      evJ ((List.replicate (Int.toNat (a2 + (1 : Int))) d_farkas_table) : (List farkas_table)) fun (x1 : (List farkas_table)) =>
      (farkas_first.ev a1 a2).bind fun y1 =>
      if (0 : Int) ≤ a2 ∧ a2 < (x1.length : Int) then
        if Int.toNat a2 < x1.length then
          evJ (y1 : farkas_table) fun (x2 : farkas_table) =>
          evJ ((x1.set (Int.toNat a2) x2) : (List farkas_table)) fun (x3 : (List farkas_table)) =>
          if -9223372036854775808 ≤ a2 - (1 : Int) ∧ a2 - (1 : Int) ≤ 9223372036854775807 then
            evRec (fun _ _ => none) (fun iI10 (x6 : Int) (x7 : (List farkas_table)) =>
              if x6 ≥ (0 : Int) then
                if -9223372036854775808 ≤ x6 + (1 : Int) ∧ x6 + (1 : Int) ≤ 9223372036854775807 then
                  if (0 : Int) ≤ (x6 + (1 : Int)) ∧ (x6 + (1 : Int)) < (x7.length : Int) then
                    if Int.toNat (x6 + (1 : Int)) < x7.length then
                      (farkas_table_without.ev (x7.getD (Int.toNat (x6 + (1 : Int))) d_farkas_table) x6).bind fun y2 =>
                      if (0 : Int) ≤ x6 ∧ x6 < (x7.length : Int) then
                        if Int.toNat x6 < x7.length then
                          evJ (y2 : farkas_table × Int) fun (x11 : farkas_table × Int) =>
                          evJ (x11.2 : Int) fun (x12 : Int) =>
                          evJ ((x7.set (Int.toNat x6) x11.1) : (List farkas_table)) fun (x13 : (List farkas_table)) =>
                          if x12 ≠ (0 : Int) then
                            some (([] : List farkas_table), x12)
                          else
                            if -9223372036854775808 ≤ x6 - (1 : Int) ∧ x6 - (1 : Int) ≤ 9223372036854775807 then
                              iI10 (x6 - (1 : Int)) x13
                            else none
                        else none
                      else none
                    else none
                  else none
                else none
              else
                some (x7, 0)
            ) 100000 (a2 - (1 : Int)) x3
          else none
        else none
      else none
    else none
  else none
def farkas_eliminated.fn (a1 : (List api_Cond)) (a2 : Int) : (List farkas_table) × Int := (farkas_eliminated.ev a1 a2).getD ([], (0 : Int))
abbrev farkas_eliminated.pre (a1 : (List api_Cond)) (a2 : Int) : Prop := (farkas_eliminated.ev a1 a2).isSome = true

def farkas_size.ev (a1 : Int) : Option (Int) :=
  if a1 < (0 : Int) then
    evJ ((IntKind.wrap .u64 (-(IntKind.wrap .u64 a1))) : Int) fun (x1 : Int) =>
    some x1
  else
    some (IntKind.wrap .u64 a1)
def farkas_size.fn (a1 : Int) : Int := (farkas_size.ev a1).getD (0 : Int)
abbrev farkas_size.pre (a1 : Int) : Prop := (farkas_size.ev a1).isSome = true

def math_bits_Mul64.ev (a1 : Int) (a2 : Int) : Option (Int × Int) :=
  evJ ((IntKind.wrap .u64 ((BitVec.ofInt 64 a1 &&& BitVec.ofInt 64 (4294967295 : Int)).toNat : Int)) : Int) fun (x1 : Int) =>
  if 0 ≤ (32 : Int) then
    evJ ((Int.fdiv a1 (2 ^ (min (Int.toNat (32 : Int)) 64))) : Int) fun (x2 : Int) =>
    evJ ((IntKind.wrap .u64 ((BitVec.ofInt 64 a2 &&& BitVec.ofInt 64 (4294967295 : Int)).toNat : Int)) : Int) fun (x3 : Int) =>
    if 0 ≤ (32 : Int) then
      evJ ((Int.fdiv a2 (2 ^ (min (Int.toNat (32 : Int)) 64))) : Int) fun (x4 : Int) =>
      if 0 ≤ (32 : Int) then
        evJ ((IntKind.wrap .u64 ((IntKind.wrap .u64 (x2 * x3)) + (Int.fdiv (IntKind.wrap .u64 (x1 * x3)) (2 ^ (min (Int.toNat (32 : Int)) 64))))) : Int) fun (x5 : Int) =>
        evJ ((IntKind.wrap .u64 ((BitVec.ofInt 64 x5 &&& BitVec.ofInt 64 (4294967295 : Int)).toNat : Int)) : Int) fun (x6 : Int) =>
        if 0 ≤ (32 : Int) then
          evJ ((Int.fdiv x5 (2 ^ (min (Int.toNat (32 : Int)) 64))) : Int) fun (x7 : Int) =>
          evJ ((IntKind.wrap .u64 (x6 + (IntKind.wrap .u64 (x1 * x4)))) : Int) fun (x8 : Int) =>
          if 0 ≤ (32 : Int) then
            evJ ((IntKind.wrap .u64 ((IntKind.wrap .u64 ((IntKind.wrap .u64 (x2 * x4)) + x7)) + (Int.fdiv x8 (2 ^ (min (Int.toNat (32 : Int)) 64))))) : Int) fun (x9 : Int) =>
            some (x9, IntKind.wrap .u64 (a1 * a2))
          else none
        else none
      else none
    else none
  else none
def math_bits_Mul64.fn (a1 : Int) (a2 : Int) : Int × Int := (math_bits_Mul64.ev a1 a2).getD ((0 : Int), (0 : Int))
abbrev math_bits_Mul64.pre (a1 : Int) (a2 : Int) : Prop := (math_bits_Mul64.ev a1 a2).isSome = true

def farkas_fraction_less.ev (a1 : farkas_fraction) (a2 : farkas_fraction) : Option (Bool) :=
  if (decide (a1.1 < (0 : Int))) ≠ (decide (a2.1 < (0 : Int))) then
    some (decide (a1.1 < (0 : Int)))
  else
    (farkas_size.ev a1.1).bind fun y1 =>
    (math_bits_Mul64.ev y1 (IntKind.wrap .u64 a2.2)).bind fun y2 =>
    evJ (y1 : Int) fun (x1 : Int) =>
    evJ ((math_bits_Mul64.fn x1 (IntKind.wrap .u64 a2.2)) : Int × Int) fun (x2 : Int × Int) =>
    evJ (x2.1 : Int) fun (x3 : Int) =>
    evJ (x2.2 : Int) fun (x4 : Int) =>
    (farkas_size.ev a2.1).bind fun y3 =>
    (math_bits_Mul64.ev y3 (IntKind.wrap .u64 a1.2)).bind fun y4 =>
    evJ (y3 : Int) fun (x5 : Int) =>
    evJ ((math_bits_Mul64.fn x5 (IntKind.wrap .u64 a1.2)) : Int × Int) fun (x6 : Int × Int) =>
    evJ (x6.1 : Int) fun (x7 : Int) =>
    evJ (x6.2 : Int) fun (x8 : Int) =>
    evJ (fun (x9 : Int) (x10 : Int) (x11 : Int) (x12 : Int) =>
      some ((decide (x9 < x11)) || ((x9 == x11) && (decide (x10 < x12))))
    ) fun jR13 =>
    if a1.1 < (0 : Int) then
      jR13 x7 x8 x3 x4
    else
      jR13 x3 x4 x7 x8
def farkas_fraction_less.fn (a1 : farkas_fraction) (a2 : farkas_fraction) : Bool := (farkas_fraction_less.ev a1 a2).getD false
abbrev farkas_fraction_less.pre (a1 : farkas_fraction) (a2 : farkas_fraction) : Prop := (farkas_fraction_less.ev a1 a2).isSome = true

def farkas_point_bound.ev (a1 : farkas_point) (a2 : farkas_row) (a3 : Int) : Option (farkas_fraction) :=
  if (0 : Int) ≤ a3 ∧ a3 < (a2.2.length : Int) then
    if -9223372036854775808 ≤ (gI a2.2 a3) * a1.2 ∧ (gI a2.2 a3) * a1.2 ≤ 9223372036854775807 then
      evRec (fun _ _ => none) (fun iI7 (x3 : Int) (x4 : Int) =>
        if x4 < (a1.1.length : Int) then
          if (0 : Int) ≤ x4 ∧ x4 < (a1.1.length : Int) then
            if (0 : Int) ≤ x4 ∧ x4 < (a2.2.length : Int) then
              if -9223372036854775808 ≤ (gI a2.2 x4) * (gI a1.1 x4) ∧ (gI a2.2 x4) * (gI a1.1 x4) ≤ 9223372036854775807 then
                if -9223372036854775808 ≤ x3 + ((gI a2.2 x4) * (gI a1.1 x4)) ∧ x3 + ((gI a2.2 x4) * (gI a1.1 x4)) ≤ 9223372036854775807 then
                  evJ ((x3 + ((gI a2.2 x4) * (gI a1.1 x4))) : Int) fun (x8 : Int) =>
                  if -9223372036854775808 ≤ x4 + (1 : Int) ∧ x4 + (1 : Int) ≤ 9223372036854775807 then
                    iI7 x8 (x4 + (1 : Int))
                  else none
                else none
              else none
            else none
          else none
        else
          if (0 : Int) ≤ (a1.1.length : Int) ∧ (a1.1.length : Int) < (a2.2.length : Int) then
            if (gI a2.2 (a1.1.length : Int)) < (0 : Int) then
              if (0 : Int) ≤ (a1.1.length : Int) ∧ (a1.1.length : Int) < (a2.2.length : Int) then
                if -9223372036854775808 ≤ -(gI a2.2 (a1.1.length : Int)) ∧ -(gI a2.2 (a1.1.length : Int)) ≤ 9223372036854775807 then
                  some (x3, -(gI a2.2 (a1.1.length : Int)))
                else none
              else none
            else
              if -9223372036854775808 ≤ -x3 ∧ -x3 ≤ 9223372036854775807 then
                if (0 : Int) ≤ (a1.1.length : Int) ∧ (a1.1.length : Int) < (a2.2.length : Int) then
                  some (-x3, gI a2.2 (a1.1.length : Int))
                else none
              else none
          else none
      ) 100000 ((gI a2.2 a3) * a1.2) (0 : Int)
    else none
  else none
def farkas_point_bound.fn (a1 : farkas_point) (a2 : farkas_row) (a3 : Int) : farkas_fraction := (farkas_point_bound.ev a1 a2 a3).getD d_farkas_fraction
abbrev farkas_point_bound.pre (a1 : farkas_point) (a2 : farkas_row) (a3 : Int) : Prop := (farkas_point_bound.ev a1 a2 a3).isSome = true

def farkas_point_value.ev (a1 : farkas_point) (a2 : farkas_table) : Option (farkas_fraction) :=
  evRec (fun _ _ _ _ _ _ _ => none) (fun iI15 (x1 : Bool) (x2 : Int) (x3 : Int) (x4 : Bool) (x5 : Int) (x6 : Int) (x7 : Int) =>
    if x7 < (a2.2.length : Int) then
      if (0 : Int) ≤ x7 ∧ x7 < (a2.2.length : Int) then
        evJ ((a2.2.getD (Int.toNat x7) d_farkas_row) : farkas_row) fun (x16 : farkas_row) =>
        if (0 : Int) ≤ (a1.1.length : Int) ∧ (a1.1.length : Int) < (x16.2.length : Int) then
          if (gI x16.2 (a1.1.length : Int)) = (0 : Int) then
            if -9223372036854775808 ≤ x7 + (1 : Int) ∧ x7 + (1 : Int) ≤ 9223372036854775807 then
              iI15 x1 x2 x3 x4 x5 x6 (x7 + (1 : Int))
            else none
          else
            (farkas_point_bound.ev a1 x16 a2.1).bind fun y1 =>
            evJ (y1 : farkas_fraction) fun (x17 : farkas_fraction) =>
            evJ (x17.1 : Int) fun (x18 : Int) =>
            evJ (x17.2 : Int) fun (x19 : Int) =>
            if x16.1 = true then
              some (x18, x19)
            else
              if (0 : Int) ≤ (a1.1.length : Int) ∧ (a1.1.length : Int) < (x16.2.length : Int) then
                if (gI x16.2 (a1.1.length : Int)) > (0 : Int) then
                  if (!(!x1)) = true → farkas_fraction_less.pre (x2, x3) (x18, x19) then
                    if ((!x1) || (farkas_fraction_less.fn (x2, x3) (x18, x19))) = true then
                      if -9223372036854775808 ≤ x7 + (1 : Int) ∧ x7 + (1 : Int) ≤ 9223372036854775807 then
                        iI15 true x18 x19 x4 x5 x6 (x7 + (1 : Int))
                      else none
                    else
                      if -9223372036854775808 ≤ x7 + (1 : Int) ∧ x7 + (1 : Int) ≤ 9223372036854775807 then
                        iI15 x1 x2 x3 x4 x5 x6 (x7 + (1 : Int))
                      else none
                  else none
                else
                  if (!(!x4)) = true → farkas_fraction_less.pre (x18, x19) (x5, x6) then
                    if ((!x4) || (farkas_fraction_less.fn (x18, x19) (x5, x6))) = true then
                      if -9223372036854775808 ≤ x7 + (1 : Int) ∧ x7 + (1 : Int) ≤ 9223372036854775807 then
                        iI15 x1 x2 x3 true x18 x19 (x7 + (1 : Int))
                      else none
                    else
                      if -9223372036854775808 ≤ x7 + (1 : Int) ∧ x7 + (1 : Int) ≤ 9223372036854775807 then
                        iI15 x1 x2 x3 x4 x5 x6 (x7 + (1 : Int))
                      else none
                  else none
              else none
        else none
      else none
    else
      if x1 = true then
        if x1 = true then
          some (x2, x3)
        else none
      else
        if x4 = true then
          if x4 = true then
            some (x5, x6)
          else none
        else
          some (0, 1)
  ) 100000 false (0 : Int) (0 : Int) false (0 : Int) (0 : Int) (0 : Int)
def farkas_point_value.fn (a1 : farkas_point) (a2 : farkas_table) : farkas_fraction := (farkas_point_value.ev a1 a2).getD d_farkas_fraction
abbrev farkas_point_value.pre (a1 : farkas_point) (a2 : farkas_table) : Prop := (farkas_point_value.ev a1 a2).isSome = true

def farkas_point_with.ev (a1 : farkas_point) (a2 : farkas_fraction) : Option (farkas_point × Int) :=
  (num_Gcd.ev [a2.1, a2.2]).bind fun y1 =>
  evJ (y1 : Int × Int) fun (x1 : Int × Int) =>
  if x1.1 ≠ 0 ∧ -9223372036854775808 ≤ Int.tdiv a2.1 x1.1 ∧ Int.tdiv a2.1 x1.1 ≤ 9223372036854775807 then
    if x1.1 ≠ 0 ∧ -9223372036854775808 ≤ Int.tdiv a2.2 x1.1 ∧ Int.tdiv a2.2 x1.1 ≤ 9223372036854775807 then
      (num_Gcd.ev [Int.tdiv a2.1 x1.1, a1.2]).bind fun y2 =>
      evJ (y2 : Int × Int) fun (x2 : Int × Int) =>
      evJ (x2.1 : Int) fun (x3 : Int) =>
      if x3 ≠ 0 ∧ -9223372036854775808 ≤ Int.tdiv (Int.tdiv a2.1 x1.1) x3 ∧ Int.tdiv (Int.tdiv a2.1 x1.1) x3 ≤ 9223372036854775807 then
        if x3 ≠ 0 ∧ -9223372036854775808 ≤ Int.tdiv a1.2 x3 ∧ Int.tdiv a1.2 x3 ≤ 9223372036854775807 then
          evJ ((Int.tdiv (Int.tdiv a2.1 x1.1) x3) : Int) fun (x4 : Int) =>
          if (!(decide ((Int.tdiv a2.2 x1.1) > (268435456 : Int)))) = true → -9223372036854775808 ≤ (Int.tdiv a1.2 x3) * (Int.tdiv a2.2 x1.1) ∧ (Int.tdiv a1.2 x3) * (Int.tdiv a2.2 x1.1) ≤ 9223372036854775807 then
            if ((decide ((Int.tdiv a2.2 x1.1) > (268435456 : Int))) || (decide (((Int.tdiv a1.2 x3) * (Int.tdiv a2.2 x1.1)) > (268435456 : Int)))) = true then
              some ((([] : List Int), 0), 3)
            else
              if -9223372036854775808 ≤ (Int.tdiv a1.2 x3) * (Int.tdiv a2.2 x1.1) ∧ (Int.tdiv a1.2 x3) * (Int.tdiv a2.2 x1.1) ≤ 9223372036854775807 then
                evJ (((Int.tdiv a1.2 x3) * (Int.tdiv a2.2 x1.1)) : Int) fun (x5 : Int) =>
                (num_Gcd.ev [x5, a1.2]).bind fun y3 =>
                evJ (y3 : Int × Int) fun (x6 : Int × Int) =>
                if x6.1 ≠ 0 ∧ -9223372036854775808 ≤ Int.tdiv a1.2 x6.1 ∧ Int.tdiv a1.2 x6.1 ≤ 9223372036854775807 then
                  if -9223372036854775808 ≤ (Int.tdiv a1.2 x6.1) * x5 ∧ (Int.tdiv a1.2 x6.1) * x5 ≤ 9223372036854775807 then
                    if ((Int.tdiv a1.2 x6.1) * x5) > (268435456 : Int) then
                      some ((([] : List Int), 0), 3)
                    else
                      evRec (fun _ _ => none) (fun iI13 (x9 : Int) (x10 : (List Int)) =>
                        if x9 < (a1.1.length : Int) then
                          if (0 : Int) ≤ x9 ∧ x9 < (a1.1.length : Int) then
                            if a1.2 ≠ 0 ∧ -9223372036854775808 ≤ Int.tdiv ((Int.tdiv a1.2 x6.1) * x5) a1.2 ∧ Int.tdiv ((Int.tdiv a1.2 x6.1) * x5) a1.2 ≤ 9223372036854775807 then
                              if -9223372036854775808 ≤ (gI a1.1 x9) * (Int.tdiv ((Int.tdiv a1.2 x6.1) * x5) a1.2) ∧ (gI a1.1 x9) * (Int.tdiv ((Int.tdiv a1.2 x6.1) * x5) a1.2) ≤ 9223372036854775807 then
                                if (x10.length + [(gI a1.1 x9) * (Int.tdiv ((Int.tdiv a1.2 x6.1) * x5) a1.2)].length) * 8 ≤ 140737488355328 ∧ x10.length + [(gI a1.1 x9) * (Int.tdiv ((Int.tdiv a1.2 x6.1) * x5) a1.2)].length ≤ 9223372036854775807 then
                                  evJ ((x10 ++ [(gI a1.1 x9) * (Int.tdiv ((Int.tdiv a1.2 x6.1) * x5) a1.2)]) : (List Int)) fun (x14 : (List Int)) =>
                                  if -9223372036854775808 ≤ x9 + (1 : Int) ∧ x9 + (1 : Int) ≤ 9223372036854775807 then
                                    iI13 (x9 + (1 : Int)) x14
                                  else none
                                else none
                              else none
                            else none
                          else none
                        else
                          if ((decide (x4 > (268435456 : Int))) || (decide (x4 < (-268435456)))) = true then
                            some ((([] : List Int), 0), 3)
                          else
                            if x5 ≠ 0 ∧ -9223372036854775808 ≤ Int.tdiv ((Int.tdiv a1.2 x6.1) * x5) x5 ∧ Int.tdiv ((Int.tdiv a1.2 x6.1) * x5) x5 ≤ 9223372036854775807 then
                              if -9223372036854775808 ≤ x4 * (Int.tdiv ((Int.tdiv a1.2 x6.1) * x5) x5) ∧ x4 * (Int.tdiv ((Int.tdiv a1.2 x6.1) * x5) x5) ≤ 9223372036854775807 then
                                if (x10.length + [x4 * (Int.tdiv ((Int.tdiv a1.2 x6.1) * x5) x5)].length) * 8 ≤ 140737488355328 ∧ x10.length + [x4 * (Int.tdiv ((Int.tdiv a1.2 x6.1) * x5) x5)].length ≤ 9223372036854775807 then
                                  evJ ((x10 ++ [x4 * (Int.tdiv ((Int.tdiv a1.2 x6.1) * x5) x5)]) : (List Int)) fun (x15 : (List Int)) =>
                                  evRec (fun _ => none) (fun iI19 (x17 : Int) =>
                                    if x17 < (x15.length : Int) then
                                      if (0 : Int) ≤ x17 ∧ x17 < (x15.length : Int) then
                                        if Int.toNat x17 < x15.length then
                                          evJ ((x15.getD (Int.toNat x17) (0 : Int)) : Int) fun (x20 : Int) =>
                                          if ((decide (x20 > (268435456 : Int))) || (decide (x20 < (-268435456)))) = true then
                                            some ((([] : List Int), 0), 3)
                                          else
                                            if -9223372036854775808 ≤ x17 + (1 : Int) ∧ x17 + (1 : Int) ≤ 9223372036854775807 then
                                              iI19 (x17 + (1 : Int))
                                            else none
                                        else none
                                      else none
                                    else
                                      some ((x15, (Int.tdiv a1.2 x6.1) * x5), 0)
                                  ) 100000 (0 : Int)
                                else none
                              else none
                            else none
                      ) 100000 (0 : Int) ([] : List Int)
                  else none
                else none
              else none
          else none
        else none
      else none
    else none
  else none
def farkas_point_with.fn (a1 : farkas_point) (a2 : farkas_fraction) : farkas_point × Int := (farkas_point_with.ev a1 a2).getD (d_farkas_point, (0 : Int))
abbrev farkas_point_with.pre (a1 : farkas_point) (a2 : farkas_fraction) : Prop := (farkas_point_with.ev a1 a2).isSome = true

def farkas_table_refuted.ev (a1 : farkas_table) : Option ((List Int) × Bool) :=
  evRec (fun _ => none) (fun iI4 (x2 : Int) =>
    if x2 < (a1.2.length : Int) then
      if (0 : Int) ≤ x2 ∧ x2 < (a1.2.length : Int) then
        evJ ((a1.2.getD (Int.toNat x2) d_farkas_row) : farkas_row) fun (x5 : farkas_row) =>
        if (0 : Int) ≤ a1.1 ∧ a1.1 < (x5.2.length : Int) then
          if ((decide ((gI x5.2 a1.1) ≥ (0 : Int))) && ((!x5.1) || ((gI x5.2 a1.1) == (0 : Int)))) = true then
            if -9223372036854775808 ≤ x2 + (1 : Int) ∧ x2 + (1 : Int) ≤ 9223372036854775807 then
              iI4 (x2 + (1 : Int))
            else none
          else
            if -9223372036854775808 ≤ a1.1 + (1 : Int) ∧ a1.1 + (1 : Int) ≤ 9223372036854775807 then
              if (0 : Int) ≤ (a1.1 + (1 : Int)) ∧ (a1.1 + (1 : Int)) ≤ (x5.2.length : Int) then
                if slices_Clone_Sint_int.pre (x5.2.drop (Int.toNat (a1.1 + (1 : Int)))) then
                  evJ ((slices_Clone_Sint_int.fn (x5.2.drop (Int.toNat (a1.1 + (1 : Int))))) : (List Int)) fun (x6 : (List Int)) =>
                  if (gI x5.2 a1.1) > (0 : Int) then
                    evRec (fun _ _ => none) (fun iI13 (x9 : Int) (x10 : (List Int)) =>
                      if x9 < (x6.length : Int) then
                        if (0 : Int) ≤ x9 ∧ x9 < (x10.length : Int) then
                          if Int.toNat x9 < x10.length then
                            if -9223372036854775808 ≤ -(x10.getD (Int.toNat x9) (0 : Int)) ∧ -(x10.getD (Int.toNat x9) (0 : Int)) ≤ 9223372036854775807 then
                              if (0 : Int) ≤ x9 ∧ x9 < (x10.length : Int) then
                                if Int.toNat x9 < x10.length then
                                  evJ ((x10.set (Int.toNat x9) (-(x10.getD (Int.toNat x9) (0 : Int)))) : (List Int)) fun (x14 : (List Int)) =>
                                  if -9223372036854775808 ≤ x9 + (1 : Int) ∧ x9 + (1 : Int) ≤ 9223372036854775807 then
                                    iI13 (x9 + (1 : Int)) x14
                                  else none
                                else none
                              else none
                            else none
                          else none
                        else none
                      else
                        some (x10, true)
                    ) 100000 (0 : Int) x6
                  else
                    some (x6, true)
                else none
              else none
            else none
        else none
      else none
    else
      some (([] : List Int), false)
  ) 100000 (0 : Int)
def farkas_table_refuted.fn (a1 : farkas_table) : (List Int) × Bool := (farkas_table_refuted.ev a1).getD ([], false)
abbrev farkas_table_refuted.pre (a1 : farkas_table) : Prop := (farkas_table_refuted.ev a1).isSome = true

def farkas_Inner.ev (a1 : (List api_Cond)) (a2 : Int) : Option ((List Int) × Int × Int) :=
  evJ ((farkas_asked.fn a1 a2) : Int) fun (x1 : Int) =>
  if x1 ≠ (0 : Int) then
    some (([] : List Int), 0, x1)
  else
    (farkas_eliminated.ev a1 a2).bind fun y1 =>
    evJ (y1 : (List farkas_table) × Int) fun (x2 : (List farkas_table) × Int) =>
    if x2.2 ≠ (0 : Int) then
      some (([] : List Int), 0, x2.2)
    else
      if (0 : Int) ≤ (0 : Int) ∧ (0 : Int) < (x2.1.length : Int) then
        (farkas_table_refuted.ev (x2.1.getD (Int.toNat (0 : Int)) d_farkas_table)).bind fun y2 =>
        evJ (y2 : (List Int) × Bool) fun (x3 : (List Int) × Bool) =>
        if x3.2 = true then
          some (([] : List Int), 0, 5)
        else
          evRec (fun _ _ _ _ => none) (fun iI12 (x4 : Int) (x5 : Int) (x6 : (List Int)) (x7 : Int) =>
            if x4 < a2 then
              if -9223372036854775808 ≤ x4 + (1 : Int) ∧ x4 + (1 : Int) ≤ 9223372036854775807 then
                if (0 : Int) ≤ (x4 + (1 : Int)) ∧ (x4 + (1 : Int)) < (x2.1.length : Int) then
                  (farkas_point_value.ev (x6, x7) (x2.1.getD (Int.toNat (x4 + (1 : Int))) d_farkas_table)).bind fun y3 =>
                  (farkas_point_with.ev (x6, x7) y3).bind fun y4 =>
                  evJ (y3 : farkas_fraction) fun (x13 : farkas_fraction) =>
                  evJ ((farkas_point_with.fn (x6, x7) x13) : farkas_point × Int) fun (x14 : farkas_point × Int) =>
                  evJ (x14.2 : Int) fun (x15 : Int) =>
                  evJ (x14.1.1 : (List Int)) fun (x16 : (List Int)) =>
                  evJ (x14.1.2 : Int) fun (x17 : Int) =>
                  if x15 ≠ (0 : Int) then
                    if x15 ≠ (0 : Int) then
                      some (([] : List Int), 0, x15)
                    else
                      some (([] : List Int), 0, x15)
                  else
                    if -9223372036854775808 ≤ x4 + (1 : Int) ∧ x4 + (1 : Int) ≤ 9223372036854775807 then
                      iI12 (x4 + (1 : Int)) x15 x16 x17
                    else none
                else none
              else none
            else
              if (0 : Int) ≠ (0 : Int) then
                some (([] : List Int), 0, 0)
              else
                some (x6, x7, 0)
          ) 100000 (0 : Int) x2.2 ([] : List Int) (1 : Int)
      else none
def farkas_Inner.fn (a1 : (List api_Cond)) (a2 : Int) : (List Int) × Int × Int := (farkas_Inner.ev a1 a2).getD ([], (0 : Int), (0 : Int))
abbrev farkas_Inner.pre (a1 : (List api_Cond)) (a2 : Int) : Prop := (farkas_Inner.ev a1 a2).isSome = true

def farkas_Prove.ev (a1 : (List api_Cond)) (a2 : Int) : Option ((List Int) × Int) :=
  evJ ((farkas_asked.fn a1 a2) : Int) fun (x1 : Int) =>
  if x1 ≠ (0 : Int) then
    some (([] : List Int), x1)
  else
    (farkas_eliminated.ev a1 a2).bind fun y1 =>
    evJ (y1 : (List farkas_table) × Int) fun (x2 : (List farkas_table) × Int) =>
    if x2.2 ≠ (0 : Int) then
      some (([] : List Int), x2.2)
    else
      if (0 : Int) ≤ (0 : Int) ∧ (0 : Int) < (x2.1.length : Int) then
        (farkas_table_refuted.ev (x2.1.getD (Int.toNat (0 : Int)) d_farkas_table)).bind fun y2 =>
        evJ (y2 : (List Int) × Bool) fun (x3 : (List Int) × Bool) =>
        evJ (x3.1 : (List Int)) fun (x4 : (List Int)) =>
        if x3.2 = false then
          some (([] : List Int), 5)
        else
          some (x4, 0)
      else none
def farkas_Prove.fn (a1 : (List api_Cond)) (a2 : Int) : (List Int) × Int := (farkas_Prove.ev a1 a2).getD ([], (0 : Int))
abbrev farkas_Prove.pre (a1 : (List api_Cond)) (a2 : Int) : Prop := (farkas_Prove.ev a1 a2).isSome = true

def law09_ge.ev (a1 : Int) (a2 : (List Int)) : Option (api_Cond) :=
  some (0, 0, (a2, a1))
def law09_ge.fn (a1 : Int) (a2 : (List Int)) : api_Cond := (law09_ge.ev a1 a2).getD d_api_Cond
abbrev law09_ge.pre (a1 : Int) (a2 : (List Int)) : Prop := (law09_ge.ev a1 a2).isSome = true

def ref02_Order.ev (a1 : (List Int)) (a2 : (List Int)) : Option (Int) :=
  evRec (fun _ => none) (fun iI4 (x2 : Int) =>
    if x2 < (a1.length : Int) then
      if (0 : Int) ≤ x2 ∧ x2 < (a1.length : Int) then
        if (0 : Int) ≤ x2 ∧ x2 < (a2.length : Int) then
          if (gI a1 x2) < (gI a2 x2) then
            some (-1)
          else
            if (0 : Int) ≤ x2 ∧ x2 < (a1.length : Int) then
              if (0 : Int) ≤ x2 ∧ x2 < (a2.length : Int) then
                if (gI a1 x2) > (gI a2 x2) then
                  some (1 : Int)
                else
                  if -9223372036854775808 ≤ x2 + (1 : Int) ∧ x2 + (1 : Int) ≤ 9223372036854775807 then
                    iI4 (x2 + (1 : Int))
                  else none
              else none
            else none
        else none
      else none
    else
      some (0 : Int)
  ) 100000 (0 : Int)
def ref02_Order.fn (a1 : (List Int)) (a2 : (List Int)) : Int := (ref02_Order.ev a1 a2).getD (0 : Int)
abbrev ref02_Order.pre (a1 : (List Int)) (a2 : (List Int)) : Prop := (ref02_Order.ev a1 a2).isSome = true

def law09_list.ev (a1 : (List Int)) (a2 : (List Int)) : Option (Bool) :=
  if ((a1.length : Int) == (a2.length : Int)) = true → ref02_Order.pre a1 a2 then
    evJ ((ref02_Order.fn a1 a2) : Int) fun (x1 : Int) =>
    some (((a1.length : Int) == (a2.length : Int)) && (x1 == (0 : Int)))
  else none
def law09_list.fn (a1 : (List Int)) (a2 : (List Int)) : Bool := (law09_list.ev a1 a2).getD false
abbrev law09_list.pre (a1 : (List Int)) (a2 : (List Int)) : Prop := (law09_list.ev a1 a2).isSome = true

def law09_awake.ev : Option (Bool) :=
  (law09_ge.ev (-3) [1]).bind fun y1 =>
  (law09_ge.ev (2 : Int) [(-1)]).bind fun y2 =>
  (farkas_Prove.ev [y1, y2] (1 : Int)).bind fun y3 =>
  evJ (y3 : (List Int) × Int) fun (x1 : (List Int) × Int) =>
  evJ (x1.1 : (List Int)) fun (x2 : (List Int)) =>
  evJ (x1.2 : Int) fun (x3 : Int) =>
  (farkas_Prove.ev [(1, 0, ([2], (-1)))] (1 : Int)).bind fun y4 =>
  evJ (y4 : (List Int) × Int) fun (x4 : (List Int) × Int) =>
  evJ (x4.2 : Int) fun (x5 : Int) =>
  (farkas_Inner.ev [(1, 0, ([2], (-1)))] (1 : Int)).bind fun y5 =>
  evJ (y5 : (List Int) × Int × Int) fun (x6 : (List Int) × Int × Int) =>
  evJ (x6.1 : (List Int)) fun (x7 : (List Int)) =>
  evJ (x6.2.1 : Int) fun (x8 : Int) =>
  evJ (x6.2.2 : Int) fun (x9 : Int) =>
  (law09_ge.ev (0 : Int) [1, (-1)]).bind fun y6 =>
  (law09_ge.ev (-1) [(-1), 1]).bind fun y7 =>
  (farkas_Prove.ev [y6, y7] (2 : Int)).bind fun y8 =>
  evJ (y8 : (List Int) × Int) fun (x10 : (List Int) × Int) =>
  evJ (x10.1 : (List Int)) fun (x11 : (List Int)) =>
  evJ (x10.2 : Int) fun (x12 : Int) =>
  if (x3 == (0 : Int)) = true → law09_list.pre x2 [1, 1] then
    if ((((x3 == (0 : Int)) && (law09_list.fn x2 [1, 1])) && (x5 == (5 : Int))) && (x9 == (0 : Int))) = true → law09_list.pre x7 [1] then
      if (((((((x3 == (0 : Int)) && (law09_list.fn x2 [1, 1])) && (x5 == (5 : Int))) && (x9 == (0 : Int))) && (law09_list.fn x7 [1])) && (x8 == (2 : Int))) && (x12 == (0 : Int))) = true → law09_list.pre x11 [1, 1] then
        some ((((((((x3 == (0 : Int)) && (law09_list.fn x2 [1, 1])) && (x5 == (5 : Int))) && (x9 == (0 : Int))) && (law09_list.fn x7 [1])) && (x8 == (2 : Int))) && (x12 == (0 : Int))) && (law09_list.fn x11 [1, 1]))
      else none
    else none
  else none
def law09_awake.fn : Bool := (law09_awake.ev).getD false
abbrev law09_awake.pre : Prop := (law09_awake.ev).isSome = true


end Go.Proofs.Ytlncingakpelbaa
