/- Part of a proof that a law of the program holds for every input: printed by a program of this work. No conditions. -/
import Derived.Test.YtlncingakpelbaaD
namespace Go.Proofs.Ytlncingakpelbaa
open Go
set_option linter.unusedVariables false
set_option maxHeartbeats 4000000

def law09_ge.ev (a1 : Int) (a2 : (List Int)) : Option (api_Cond) :=
  some (0, 0, (a2, a1))
def law09_ge.fn (a1 : Int) (a2 : (List Int)) : api_Cond := (law09_ge.ev a1 a2).getD d_api_Cond
abbrev law09_ge.pre (a1 : Int) (a2 : (List Int)) : Prop := (law09_ge.ev a1 a2).isSome = true

def ref02_Order.ev (a1 : (List Int)) (a2 : (List Int)) : Option (Int) :=
  evRec (fun _ => none) (fun iI4 (x2 : Int) =>
    if x2 < (a1.length : Int) then
      if (0 : Int) ≤ x2 ∧ x2 < (a1.length : Int) then
        if (0 : Int) ≤ x2 ∧ x2 < (a2.length : Int) then
          if (gI a1 x2) < (gI a2 x2) then
            some (-1)
          else
            if (0 : Int) ≤ x2 ∧ x2 < (a1.length : Int) then
              if (0 : Int) ≤ x2 ∧ x2 < (a2.length : Int) then
                if (gI a1 x2) > (gI a2 x2) then
                  some (1 : Int)
                else
                  if -9223372036854775808 ≤ x2 + (1 : Int) ∧ x2 + (1 : Int) ≤ 9223372036854775807 then
                    iI4 (x2 + (1 : Int))
                  else none
              else none
            else none
        else none
      else none
    else
      some (0 : Int)
  ) 100000 (0 : Int)
def ref02_Order.fn (a1 : (List Int)) (a2 : (List Int)) : Int := (ref02_Order.ev a1 a2).getD (0 : Int)
abbrev ref02_Order.pre (a1 : (List Int)) (a2 : (List Int)) : Prop := (ref02_Order.ev a1 a2).isSome = true

def law09_list.ev (a1 : (List Int)) (a2 : (List Int)) : Option (Bool) :=
  if ((a1.length : Int) == (a2.length : Int)) = true → ref02_Order.pre a1 a2 then
    evJ ((ref02_Order.fn a1 a2) : Int) fun (x1 : Int) =>
    some (((a1.length : Int) == (a2.length : Int)) && (x1 == (0 : Int)))
  else none
def law09_list.fn (a1 : (List Int)) (a2 : (List Int)) : Bool := (law09_list.ev a1 a2).getD false
abbrev law09_list.pre (a1 : (List Int)) (a2 : (List Int)) : Prop := (law09_list.ev a1 a2).isSome = true

def law09_awake.ev : Option (Bool) :=
  (law09_ge.ev (-3) [1]).bind fun y1 =>
  (law09_ge.ev (2 : Int) [(-1)]).bind fun y2 =>
  evJ ((farkas_Prove.fn [y1, y2] (1 : Int)) : (List Int) × Int) fun (x1 : (List Int) × Int) =>
  evJ (x1.1 : (List Int)) fun (x2 : (List Int)) =>
  evJ (x1.2 : Int) fun (x3 : Int) =>
  evJ ((farkas_Prove.fn [(1, 0, ([2], (-1)))] (1 : Int)) : (List Int) × Int) fun (x4 : (List Int) × Int) =>
  evJ (x4.2 : Int) fun (x5 : Int) =>
  evJ ((farkas_Inner.fn [(1, 0, ([2], (-1)))] (1 : Int)) : (List Int) × Int × Int) fun (x6 : (List Int) × Int × Int) =>
  evJ (x6.1 : (List Int)) fun (x7 : (List Int)) =>
  evJ (x6.2.1 : Int) fun (x8 : Int) =>
  evJ (x6.2.2 : Int) fun (x9 : Int) =>
  (law09_ge.ev (0 : Int) [1, (-1)]).bind fun y3 =>
  (law09_ge.ev (-1) [(-1), 1]).bind fun y4 =>
  evJ ((farkas_Prove.fn [y3, y4] (2 : Int)) : (List Int) × Int) fun (x10 : (List Int) × Int) =>
  evJ (x10.1 : (List Int)) fun (x11 : (List Int)) =>
  evJ (x10.2 : Int) fun (x12 : Int) =>
  if (x3 == (0 : Int)) = true → law09_list.pre x2 [1, 1] then
    if ((((x3 == (0 : Int)) && (law09_list.fn x2 [1, 1])) && (x5 == (5 : Int))) && (x9 == (0 : Int))) = true → law09_list.pre x7 [1] then
      if (((((((x3 == (0 : Int)) && (law09_list.fn x2 [1, 1])) && (x5 == (5 : Int))) && (x9 == (0 : Int))) && (law09_list.fn x7 [1])) && (x8 == (2 : Int))) && (x12 == (0 : Int))) = true → law09_list.pre x11 [1, 1] then
        some ((((((((x3 == (0 : Int)) && (law09_list.fn x2 [1, 1])) && (x5 == (5 : Int))) && (x9 == (0 : Int))) && (law09_list.fn x7 [1])) && (x8 == (2 : Int))) && (x12 == (0 : Int))) && (law09_list.fn x11 [1, 1]))
      else none
    else none
  else none
def law09_awake.fn : Bool := (law09_awake.ev).getD false
abbrev law09_awake.pre : Prop := (law09_awake.ev).isSome = true


end Go.Proofs.Ytlncingakpelbaa
