/- Part of a proof that a law of the program holds for every input: printed by a program of this work. No conditions. -/
import Derived.Test.YtlncingakpelbaaD
namespace Go.Proofs.Ytlncingakpelbaa
open Go
set_option linter.unusedVariables false
set_option maxHeartbeats 4000000

def law09_ge.ev (a1 : Int) (a2 : (List Int)) : Option (api_Cond) :=
  some (0, 0, (a2, a1))
def law09_ge.fn (a1 : Int) (a2 : (List Int)) : api_Cond := (law09_ge.ev a1 a2).getD d_api_Cond
abbrev law09_ge.pre (a1 : Int) (a2 : (List Int)) : Prop := (law09_ge.ev a1 a2).isSome = true

def law09_awake.ev : Option (Bool) :=
  (law09_ge.ev (-3) [1]).bind fun y1 =>
  (law09_ge.ev (2 : Int) [(-1)]).bind fun y2 =>
  evJ ((farkas_Prove.fn [y1, y2] (1 : Int)) : (List Int) × Int) fun (x1 : (List Int) × Int) =>
  evJ (x1.1 : (List Int)) fun (x2 : (List Int)) =>
  evJ (x1.2 : Int) fun (x3 : Int) =>
  evJ ((farkas_Prove.fn [(1, 0, ([2], (-1)))] (1 : Int)) : (List Int) × Int) fun (x4 : (List Int) × Int) =>
  evJ (x4.2 : Int) fun (x5 : Int) =>
  evJ ((farkas_Inner.fn [(1, 0, ([2], (-1)))] (1 : Int)) : (List Int) × Int × Int) fun (x6 : (List Int) × Int × Int) =>
  evJ (x6.1 : (List Int)) fun (x7 : (List Int)) =>
  evJ (x6.2.1 : Int) fun (x8 : Int) =>
  evJ (x6.2.2 : Int) fun (x9 : Int) =>
  (law09_ge.ev (0 : Int) [1, (-1)]).bind fun y3 =>
  (law09_ge.ev (-1) [(-1), 1]).bind fun y4 =>
  evJ ((farkas_Prove.fn [y3, y4] (2 : Int)) : (List Int) × Int) fun (x10 : (List Int) × Int) =>
  evJ (x10.1 : (List Int)) fun (x11 : (List Int)) =>
  evJ (x10.2 : Int) fun (x12 : Int) =>
  some ((((((((x3 == (0 : Int)) && (law09_list.fn x2 [1, 1])) && (x5 == (5 : Int))) && (x9 == (0 : Int))) && (law09_list.fn x7 [1])) && (x8 == (2 : Int))) && (x12 == (0 : Int))) && (law09_list.fn x11 [1, 1]))
def law09_awake.fn : Bool := (law09_awake.ev).getD false
abbrev law09_awake.pre : Prop := (law09_awake.ev).isSome = true


end Go.Proofs.Ytlncingakpelbaa
