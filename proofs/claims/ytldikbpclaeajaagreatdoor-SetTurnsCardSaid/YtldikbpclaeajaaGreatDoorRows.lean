/-
  NARROWER THAN 'FOR EVERY INPUT', by the rows' own cells (each row's printed sentence says how): SetNormal: laid · SetMinus: laid · SetSimple: laid · SetJoins: laid · SetWhere: laid · SetStays: laid · SetHas: laid · SetApart: laid · SetPoints: laid · SetTurns: laid.
  DERIVED. THE GIVEN ROWS OF THIS SEAT. 10 by the template 'for every input the law returns true; each argument reads behind the call as it read before'; 0 by the template 'total and deterministic' (their statements: YtldikbpclaeajaaGreatDoorTotals.lean).
  GIVEN WITH THE SEED: the statements are not yours to turn. If you find one false, say at which input.
  Laid BY PROGRAM, IN A SANDBOX (cutbox-rows.mjs): the forced cells as the released guide's own fill.sh prints them over the translation 98279c48247df418… (all of the seat's roots in one cut). By AI agents, Wed Nov 11 2026. No macro, syntax, notation, axiom, sorry.
-/
import Derived.Test.YtldikbpclaeajaaGreatDoorChecked
import GoSem.Claim
import GoSem.ClaimJoined
import GoSem.ClaimMapViews
import Derived.JoinedTies
import Derived.KernelRfl
namespace Go.Proofs.YtldikbpclaeajaaGreatDoor
/- THE CELL 'sum', in the pinned program and in every row, IS THE sha256 OF THE DUMP (.gsa) THAT YtldikbpclaeajaaGreatDoorProg.lean LOADS. Nothing in Lean hashes anything: it is a label: what it is worth is what the hold of that sum in a sandbox is worth. -/
noncomputable def Tryz.pinned : Pinned := { name := "ytldikbpclaeajaagreatdoor", sum := "98279c48247df41890c98907c0835422808d99ba46253cede75ec417bcfc0a14", checked := Tryz.checked }
namespace Rows
def none {H : Type} : Left H := { results := [], args := [] }

/- WHAT THE LISTED PACKAGE-LEVEL VARIABLES READ AS WHEN THE CALL BEGINS. Each datum BY PROGRAM (the guide's laid-datum.mjs) off the statement by which the dump's own 'gosem.cut.vars' lays the variable. In a bare row this is a premise. The card (YtldikbpclaeajaaGreatDoorCards.lean) ties it to the program's text. -/
def laid_math_bits_deBruijn32tab {H : Type} : DataW H := .agg [.lit (.int .u8 0), .lit (.int .u8 1), .lit (.int .u8 28), .lit (.int .u8 2), .lit (.int .u8 29), .lit (.int .u8 14), .lit (.int .u8 24), .lit (.int .u8 3), .lit (.int .u8 30), .lit (.int .u8 22), .lit (.int .u8 20), .lit (.int .u8 15), .lit (.int .u8 25), .lit (.int .u8 17), .lit (.int .u8 4), .lit (.int .u8 8), .lit (.int .u8 31), .lit (.int .u8 27), .lit (.int .u8 13), .lit (.int .u8 23), .lit (.int .u8 21), .lit (.int .u8 19), .lit (.int .u8 16), .lit (.int .u8 7), .lit (.int .u8 26), .lit (.int .u8 12), .lit (.int .u8 18), .lit (.int .u8 6), .lit (.int .u8 11), .lit (.int .u8 5), .lit (.int .u8 10), .lit (.int .u8 9)]
def laid_math_bits_deBruijn64tab {H : Type} : DataW H := .agg [.lit (.int .u8 0), .lit (.int .u8 1), .lit (.int .u8 56), .lit (.int .u8 2), .lit (.int .u8 57), .lit (.int .u8 49), .lit (.int .u8 28), .lit (.int .u8 3), .lit (.int .u8 61), .lit (.int .u8 58), .lit (.int .u8 42), .lit (.int .u8 50), .lit (.int .u8 38), .lit (.int .u8 29), .lit (.int .u8 17), .lit (.int .u8 4), .lit (.int .u8 62), .lit (.int .u8 47), .lit (.int .u8 59), .lit (.int .u8 36), .lit (.int .u8 45), .lit (.int .u8 43), .lit (.int .u8 51), .lit (.int .u8 22), .lit (.int .u8 53), .lit (.int .u8 39), .lit (.int .u8 33), .lit (.int .u8 30), .lit (.int .u8 24), .lit (.int .u8 18), .lit (.int .u8 12), .lit (.int .u8 5), .lit (.int .u8 63), .lit (.int .u8 55), .lit (.int .u8 48), .lit (.int .u8 27), .lit (.int .u8 60), .lit (.int .u8 41), .lit (.int .u8 37), .lit (.int .u8 16), .lit (.int .u8 46), .lit (.int .u8 35), .lit (.int .u8 44), .lit (.int .u8 21), .lit (.int .u8 52), .lit (.int .u8 32), .lit (.int .u8 23), .lit (.int .u8 11), .lit (.int .u8 54), .lit (.int .u8 26), .lit (.int .u8 40), .lit (.int .u8 15), .lit (.int .u8 34), .lit (.int .u8 20), .lit (.int .u8 31), .lit (.int .u8 10), .lit (.int .u8 25), .lit (.int .u8 14), .lit (.int .u8 19), .lit (.int .u8 9), .lit (.int .u8 13), .lit (.int .u8 8), .lit (.int .u8 7), .lit (.int .u8 6)]
def laid_internal_strconv_uint64pow10 {H : Type} : DataW H := .agg [.lit (.int .u64 1), .lit (.int .u64 10), .lit (.int .u64 100), .lit (.int .u64 1000), .lit (.int .u64 10000), .lit (.int .u64 100000), .lit (.int .u64 1000000), .lit (.int .u64 10000000), .lit (.int .u64 100000000), .lit (.int .u64 1000000000), .lit (.int .u64 10000000000), .lit (.int .u64 100000000000), .lit (.int .u64 1000000000000), .lit (.int .u64 10000000000000), .lit (.int .u64 100000000000000), .lit (.int .u64 1000000000000000), .lit (.int .u64 10000000000000000), .lit (.int .u64 100000000000000000), .lit (.int .u64 1000000000000000000), .lit (.int .u64 10000000000000000000)]

/-- 'headlandlaw04.SetNormal': WHATEVER THE INPUT: true; the input reads as it did. -/
def setNormalSpec : ChangeSpec := { name := "setNormal", fn := fun _ => fun
  | [d] => { results := [.lit (.bool true)], args := [d] }
  | _ => none }
def setNormalRow : OpenClaim := { program := "ytldikbpclaeajaagreatdoor", sum := "98279c48247df41890c98907c0835422808d99ba46253cede75ec417bcfc0a14", func := "headland/headlandlaw04.SetNormal", spec := "setNormal", unfollowed := true, recurses := true, named := ["internal/strconv.uint64pow10", "math/bits.deBruijn32tab", "math/bits.deBruijn64tab"], apart := false, laid := [("math/bits.deBruijn32tab", laid_math_bits_deBruijn32tab), ("math/bits.deBruijn64tab", laid_math_bits_deBruijn64tab), ("internal/strconv.uint64pow10", laid_internal_strconv_uint64pow10)] }
def SetNormalSaid : Prop := setNormalRow.holds Tryz.pinned (OpenSpec.ofChange setNormalSpec)

/-- ITS FALSE NEIGHBOUR: 'it returns false'. Refute it at one input. -/
def setNormalWrong : ChangeSpec := { name := "setNormal", fn := fun _ => fun
  | [d] => { results := [.lit (.bool false)], args := [d] }
  | _ => none }
def SetNormalWrongFalsely : Prop := setNormalRow.holds Tryz.pinned (OpenSpec.ofChange setNormalWrong)

/-- 'headlandlaw04.SetMinus': WHATEVER THE INPUT: true; the input reads as it did. -/
def setMinusSpec : ChangeSpec := { name := "setMinus", fn := fun _ => fun
  | [d1, d2] => { results := [.lit (.bool true)], args := [d1, d2] }
  | _ => none }
def setMinusRow : OpenClaim := { program := "ytldikbpclaeajaagreatdoor", sum := "98279c48247df41890c98907c0835422808d99ba46253cede75ec417bcfc0a14", func := "headland/headlandlaw04.SetMinus", spec := "setMinus", unfollowed := true, recurses := true, named := ["internal/strconv.uint64pow10", "math/bits.deBruijn32tab", "math/bits.deBruijn64tab"], apart := false, laid := [("math/bits.deBruijn32tab", laid_math_bits_deBruijn32tab), ("math/bits.deBruijn64tab", laid_math_bits_deBruijn64tab), ("internal/strconv.uint64pow10", laid_internal_strconv_uint64pow10)] }
def SetMinusSaid : Prop := setMinusRow.holds Tryz.pinned (OpenSpec.ofChange setMinusSpec)

/-- ITS FALSE NEIGHBOUR: 'it returns false'. Refute it at one input. -/
def setMinusWrong : ChangeSpec := { name := "setMinus", fn := fun _ => fun
  | [d1, d2] => { results := [.lit (.bool false)], args := [d1, d2] }
  | _ => none }
def SetMinusWrongFalsely : Prop := setMinusRow.holds Tryz.pinned (OpenSpec.ofChange setMinusWrong)

/-- 'headlandlaw04.SetSimple': WHATEVER THE INPUT: true; the input reads as it did. -/
def setSimpleSpec : ChangeSpec := { name := "setSimple", fn := fun _ => fun
  | [d1, d2] => { results := [.lit (.bool true)], args := [d1, d2] }
  | _ => none }
def setSimpleRow : OpenClaim := { program := "ytldikbpclaeajaagreatdoor", sum := "98279c48247df41890c98907c0835422808d99ba46253cede75ec417bcfc0a14", func := "headland/headlandlaw04.SetSimple", spec := "setSimple", unfollowed := true, recurses := true, named := ["internal/strconv.uint64pow10", "math/bits.deBruijn32tab", "math/bits.deBruijn64tab"], apart := false, laid := [("math/bits.deBruijn32tab", laid_math_bits_deBruijn32tab), ("math/bits.deBruijn64tab", laid_math_bits_deBruijn64tab), ("internal/strconv.uint64pow10", laid_internal_strconv_uint64pow10)] }
def SetSimpleSaid : Prop := setSimpleRow.holds Tryz.pinned (OpenSpec.ofChange setSimpleSpec)

/-- ITS FALSE NEIGHBOUR: 'it returns false'. Refute it at one input. -/
def setSimpleWrong : ChangeSpec := { name := "setSimple", fn := fun _ => fun
  | [d1, d2] => { results := [.lit (.bool false)], args := [d1, d2] }
  | _ => none }
def SetSimpleWrongFalsely : Prop := setSimpleRow.holds Tryz.pinned (OpenSpec.ofChange setSimpleWrong)

/-- 'headlandlaw04.SetJoins': WHATEVER THE INPUT: true; the input reads as it did. -/
def setJoinsSpec : ChangeSpec := { name := "setJoins", fn := fun _ => fun
  | [d1, d2] => { results := [.lit (.bool true)], args := [d1, d2] }
  | _ => none }
def setJoinsRow : OpenClaim := { program := "ytldikbpclaeajaagreatdoor", sum := "98279c48247df41890c98907c0835422808d99ba46253cede75ec417bcfc0a14", func := "headland/headlandlaw04.SetJoins", spec := "setJoins", unfollowed := true, recurses := true, named := ["internal/strconv.uint64pow10", "math/bits.deBruijn32tab", "math/bits.deBruijn64tab"], apart := false, laid := [("math/bits.deBruijn32tab", laid_math_bits_deBruijn32tab), ("math/bits.deBruijn64tab", laid_math_bits_deBruijn64tab), ("internal/strconv.uint64pow10", laid_internal_strconv_uint64pow10)] }
def SetJoinsSaid : Prop := setJoinsRow.holds Tryz.pinned (OpenSpec.ofChange setJoinsSpec)

/-- ITS FALSE NEIGHBOUR: 'it returns false'. Refute it at one input. -/
def setJoinsWrong : ChangeSpec := { name := "setJoins", fn := fun _ => fun
  | [d1, d2] => { results := [.lit (.bool false)], args := [d1, d2] }
  | _ => none }
def SetJoinsWrongFalsely : Prop := setJoinsRow.holds Tryz.pinned (OpenSpec.ofChange setJoinsWrong)

/-- 'headlandlaw04.SetWhere': WHATEVER THE INPUT: true; the input reads as it did. -/
def setWhereSpec : ChangeSpec := { name := "setWhere", fn := fun _ => fun
  | [d1, d2, d3, d4] => { results := [.lit (.bool true)], args := [d1, d2, d3, d4] }
  | _ => none }
def setWhereRow : OpenClaim := { program := "ytldikbpclaeajaagreatdoor", sum := "98279c48247df41890c98907c0835422808d99ba46253cede75ec417bcfc0a14", func := "headland/headlandlaw04.SetWhere", spec := "setWhere", unfollowed := true, recurses := true, named := ["internal/strconv.uint64pow10", "math/bits.deBruijn32tab", "math/bits.deBruijn64tab"], apart := false, laid := [("math/bits.deBruijn32tab", laid_math_bits_deBruijn32tab), ("math/bits.deBruijn64tab", laid_math_bits_deBruijn64tab), ("internal/strconv.uint64pow10", laid_internal_strconv_uint64pow10)] }
def SetWhereSaid : Prop := setWhereRow.holds Tryz.pinned (OpenSpec.ofChange setWhereSpec)

/-- ITS FALSE NEIGHBOUR: 'it returns false'. Refute it at one input. -/
def setWhereWrong : ChangeSpec := { name := "setWhere", fn := fun _ => fun
  | [d1, d2, d3, d4] => { results := [.lit (.bool false)], args := [d1, d2, d3, d4] }
  | _ => none }
def SetWhereWrongFalsely : Prop := setWhereRow.holds Tryz.pinned (OpenSpec.ofChange setWhereWrong)

/-- 'headlandlaw04.SetStays': WHATEVER THE INPUT: true; the input reads as it did. -/
def setStaysSpec : ChangeSpec := { name := "setStays", fn := fun _ => fun
  | [d1, d2, d3, d4] => { results := [.lit (.bool true)], args := [d1, d2, d3, d4] }
  | _ => none }
def setStaysRow : OpenClaim := { program := "ytldikbpclaeajaagreatdoor", sum := "98279c48247df41890c98907c0835422808d99ba46253cede75ec417bcfc0a14", func := "headland/headlandlaw04.SetStays", spec := "setStays", unfollowed := true, recurses := true, named := ["internal/strconv.uint64pow10", "math/bits.deBruijn32tab", "math/bits.deBruijn64tab"], apart := false, laid := [("math/bits.deBruijn32tab", laid_math_bits_deBruijn32tab), ("math/bits.deBruijn64tab", laid_math_bits_deBruijn64tab), ("internal/strconv.uint64pow10", laid_internal_strconv_uint64pow10)] }
def SetStaysSaid : Prop := setStaysRow.holds Tryz.pinned (OpenSpec.ofChange setStaysSpec)

/-- ITS FALSE NEIGHBOUR: 'it returns false'. Refute it at one input. -/
def setStaysWrong : ChangeSpec := { name := "setStays", fn := fun _ => fun
  | [d1, d2, d3, d4] => { results := [.lit (.bool false)], args := [d1, d2, d3, d4] }
  | _ => none }
def SetStaysWrongFalsely : Prop := setStaysRow.holds Tryz.pinned (OpenSpec.ofChange setStaysWrong)

/-- 'headlandlaw04.SetHas': WHATEVER THE INPUT: true; the input reads as it did. -/
def setHasSpec : ChangeSpec := { name := "setHas", fn := fun _ => fun
  | [d1, d2] => { results := [.lit (.bool true)], args := [d1, d2] }
  | _ => none }
def setHasRow : OpenClaim := { program := "ytldikbpclaeajaagreatdoor", sum := "98279c48247df41890c98907c0835422808d99ba46253cede75ec417bcfc0a14", func := "headland/headlandlaw04.SetHas", spec := "setHas", unfollowed := true, recurses := true, named := ["internal/strconv.uint64pow10", "math/bits.deBruijn32tab", "math/bits.deBruijn64tab"], apart := false, laid := [("math/bits.deBruijn32tab", laid_math_bits_deBruijn32tab), ("math/bits.deBruijn64tab", laid_math_bits_deBruijn64tab), ("internal/strconv.uint64pow10", laid_internal_strconv_uint64pow10)] }
def SetHasSaid : Prop := setHasRow.holds Tryz.pinned (OpenSpec.ofChange setHasSpec)

/-- ITS FALSE NEIGHBOUR: 'it returns false'. Refute it at one input. -/
def setHasWrong : ChangeSpec := { name := "setHas", fn := fun _ => fun
  | [d1, d2] => { results := [.lit (.bool false)], args := [d1, d2] }
  | _ => none }
def SetHasWrongFalsely : Prop := setHasRow.holds Tryz.pinned (OpenSpec.ofChange setHasWrong)

/-- 'headlandlaw04.SetApart': WHATEVER THE INPUT: true; the input reads as it did. -/
def setApartSpec : ChangeSpec := { name := "setApart", fn := fun _ => fun
  | [d1, d2] => { results := [.lit (.bool true)], args := [d1, d2] }
  | _ => none }
def setApartRow : OpenClaim := { program := "ytldikbpclaeajaagreatdoor", sum := "98279c48247df41890c98907c0835422808d99ba46253cede75ec417bcfc0a14", func := "headland/headlandlaw04.SetApart", spec := "setApart", unfollowed := true, recurses := true, named := ["internal/strconv.uint64pow10", "math/bits.deBruijn32tab", "math/bits.deBruijn64tab"], apart := false, laid := [("math/bits.deBruijn32tab", laid_math_bits_deBruijn32tab), ("math/bits.deBruijn64tab", laid_math_bits_deBruijn64tab), ("internal/strconv.uint64pow10", laid_internal_strconv_uint64pow10)] }
def SetApartSaid : Prop := setApartRow.holds Tryz.pinned (OpenSpec.ofChange setApartSpec)

/-- ITS FALSE NEIGHBOUR: 'it returns false'. Refute it at one input. -/
def setApartWrong : ChangeSpec := { name := "setApart", fn := fun _ => fun
  | [d1, d2] => { results := [.lit (.bool false)], args := [d1, d2] }
  | _ => none }
def SetApartWrongFalsely : Prop := setApartRow.holds Tryz.pinned (OpenSpec.ofChange setApartWrong)

/-- 'headlandlaw04.SetPoints': WHATEVER THE INPUT: true; the input reads as it did. -/
def setPointsSpec : ChangeSpec := { name := "setPoints", fn := fun _ => fun
  | [d1, d2, d3, d4, d5] => { results := [.lit (.bool true)], args := [d1, d2, d3, d4, d5] }
  | _ => none }
def setPointsRow : OpenClaim := { program := "ytldikbpclaeajaagreatdoor", sum := "98279c48247df41890c98907c0835422808d99ba46253cede75ec417bcfc0a14", func := "headland/headlandlaw04.SetPoints", spec := "setPoints", unfollowed := true, recurses := true, named := ["internal/strconv.uint64pow10", "math/bits.deBruijn32tab", "math/bits.deBruijn64tab"], apart := false, laid := [("math/bits.deBruijn32tab", laid_math_bits_deBruijn32tab), ("math/bits.deBruijn64tab", laid_math_bits_deBruijn64tab), ("internal/strconv.uint64pow10", laid_internal_strconv_uint64pow10)] }
def SetPointsSaid : Prop := setPointsRow.holds Tryz.pinned (OpenSpec.ofChange setPointsSpec)

/-- ITS FALSE NEIGHBOUR: 'it returns false'. Refute it at one input. -/
def setPointsWrong : ChangeSpec := { name := "setPoints", fn := fun _ => fun
  | [d1, d2, d3, d4, d5] => { results := [.lit (.bool false)], args := [d1, d2, d3, d4, d5] }
  | _ => none }
def SetPointsWrongFalsely : Prop := setPointsRow.holds Tryz.pinned (OpenSpec.ofChange setPointsWrong)

/-- 'headlandlaw04.SetTurns': WHATEVER THE INPUT: true; the input reads as it did. -/
def setTurnsSpec : ChangeSpec := { name := "setTurns", fn := fun _ => fun
  | [d1, d2, d3, d4] => { results := [.lit (.bool true)], args := [d1, d2, d3, d4] }
  | _ => none }
def setTurnsRow : OpenClaim := { program := "ytldikbpclaeajaagreatdoor", sum := "98279c48247df41890c98907c0835422808d99ba46253cede75ec417bcfc0a14", func := "headland/headlandlaw04.SetTurns", spec := "setTurns", inPlace := ["slices.overlaps[int]"], unfollowed := true, recurses := true, named := ["internal/strconv.uint64pow10", "math/bits.deBruijn32tab", "math/bits.deBruijn64tab"], apart := false, laid := [("math/bits.deBruijn32tab", laid_math_bits_deBruijn32tab), ("math/bits.deBruijn64tab", laid_math_bits_deBruijn64tab), ("internal/strconv.uint64pow10", laid_internal_strconv_uint64pow10)] }
def SetTurnsSaid : Prop := setTurnsRow.holds Tryz.pinned (OpenSpec.ofChange setTurnsSpec)

/-- ITS FALSE NEIGHBOUR: 'it returns false'. Refute it at one input. -/
def setTurnsWrong : ChangeSpec := { name := "setTurns", fn := fun _ => fun
  | [d1, d2, d3, d4] => { results := [.lit (.bool false)], args := [d1, d2, d3, d4] }
  | _ => none }
def SetTurnsWrongFalsely : Prop := setTurnsRow.holds Tryz.pinned (OpenSpec.ofChange setTurnsWrong)

/- THE SECOND FORM. 'bulk': how many values and letters a reading holds, each counted each time it is reached (what is shared counts as often as it is met; a slice's spare places count too). A statement '..UptoSaid' is the law's where the arguments, and the package variables that the reading takes, are together of bulk at most 1048576: NARROWER than '..Said'. Prove '..Said' where nothing that the law and all that it calls make is longer than what came in: it says more and counts as full. Else prove '..UptoSaid'. A law counts once. -/
mutual
def uptoBulk {H : Type} : DataW H → Nat
  | .lit (.string bytes) => bytes.length + 1
  | .lit _ => 1
  | .nil => 1
  | .ptr d => uptoBulk d + 1
  | .slice elems spare => uptoBulkAll elems + uptoBulkAll spare + 1
  | .agg parts => uptoBulkAll parts + 1
  | .iface _ d => uptoBulk d + 1
  | .map entries => uptoBulkEntries entries + 1
  | .held _ => 1
def uptoBulkAll {H : Type} : List (DataW H) → Nat
  | [] => 0
  | d :: r => uptoBulk d + uptoBulkAll r
def uptoBulkEntries {H : Type} : List (Lit × DataW H) → Nat
  | [] => 0
  | x :: r => uptoBulkEntry x + uptoBulkEntries r
def uptoBulkEntry {H : Type} : Lit × DataW H → Nat
  | (.string bytes, d) => bytes.length + uptoBulk d + 1
  | (_, d) => uptoBulk d + 1
 end
def uptoSmall : (H : Type) → List (DataW H) → Bool := fun _ ds => decide (uptoBulkAll ds ≤ 1048576)
def OpenSpec.upto (s : _root_.Go.ChangeSpec) : _root_.Go.OpenSpec := { _root_.Go.OpenSpec.ofChange s with cond := some uptoSmall }

/-- 'headlandlaw04.SetNormal', WHERE WHAT IT READS IS OF BULK AT MOST 1048576: true; the input reads as it did. -/
def setNormalUptoRow : OpenClaim := { program := "ytldikbpclaeajaagreatdoor", sum := "98279c48247df41890c98907c0835422808d99ba46253cede75ec417bcfc0a14", func := "headland/headlandlaw04.SetNormal", spec := "setNormal", unfollowed := true, recurses := true, named := ["internal/strconv.uint64pow10", "math/bits.deBruijn32tab", "math/bits.deBruijn64tab"], apart := false, laid := [("math/bits.deBruijn32tab", laid_math_bits_deBruijn32tab), ("math/bits.deBruijn64tab", laid_math_bits_deBruijn64tab), ("internal/strconv.uint64pow10", laid_internal_strconv_uint64pow10)], narrowed := true }
def SetNormalUptoSaid : Prop := setNormalUptoRow.holds Tryz.pinned (OpenSpec.upto setNormalSpec)

/-- 'headlandlaw04.SetMinus', WHERE WHAT IT READS IS OF BULK AT MOST 1048576: true; the input reads as it did. -/
def setMinusUptoRow : OpenClaim := { program := "ytldikbpclaeajaagreatdoor", sum := "98279c48247df41890c98907c0835422808d99ba46253cede75ec417bcfc0a14", func := "headland/headlandlaw04.SetMinus", spec := "setMinus", unfollowed := true, recurses := true, named := ["internal/strconv.uint64pow10", "math/bits.deBruijn32tab", "math/bits.deBruijn64tab"], apart := false, laid := [("math/bits.deBruijn32tab", laid_math_bits_deBruijn32tab), ("math/bits.deBruijn64tab", laid_math_bits_deBruijn64tab), ("internal/strconv.uint64pow10", laid_internal_strconv_uint64pow10)], narrowed := true }
def SetMinusUptoSaid : Prop := setMinusUptoRow.holds Tryz.pinned (OpenSpec.upto setMinusSpec)

/-- 'headlandlaw04.SetSimple', WHERE WHAT IT READS IS OF BULK AT MOST 1048576: true; the input reads as it did. -/
def setSimpleUptoRow : OpenClaim := { program := "ytldikbpclaeajaagreatdoor", sum := "98279c48247df41890c98907c0835422808d99ba46253cede75ec417bcfc0a14", func := "headland/headlandlaw04.SetSimple", spec := "setSimple", unfollowed := true, recurses := true, named := ["internal/strconv.uint64pow10", "math/bits.deBruijn32tab", "math/bits.deBruijn64tab"], apart := false, laid := [("math/bits.deBruijn32tab", laid_math_bits_deBruijn32tab), ("math/bits.deBruijn64tab", laid_math_bits_deBruijn64tab), ("internal/strconv.uint64pow10", laid_internal_strconv_uint64pow10)], narrowed := true }
def SetSimpleUptoSaid : Prop := setSimpleUptoRow.holds Tryz.pinned (OpenSpec.upto setSimpleSpec)

/-- 'headlandlaw04.SetJoins', WHERE WHAT IT READS IS OF BULK AT MOST 1048576: true; the input reads as it did. -/
def setJoinsUptoRow : OpenClaim := { program := "ytldikbpclaeajaagreatdoor", sum := "98279c48247df41890c98907c0835422808d99ba46253cede75ec417bcfc0a14", func := "headland/headlandlaw04.SetJoins", spec := "setJoins", unfollowed := true, recurses := true, named := ["internal/strconv.uint64pow10", "math/bits.deBruijn32tab", "math/bits.deBruijn64tab"], apart := false, laid := [("math/bits.deBruijn32tab", laid_math_bits_deBruijn32tab), ("math/bits.deBruijn64tab", laid_math_bits_deBruijn64tab), ("internal/strconv.uint64pow10", laid_internal_strconv_uint64pow10)], narrowed := true }
def SetJoinsUptoSaid : Prop := setJoinsUptoRow.holds Tryz.pinned (OpenSpec.upto setJoinsSpec)

/-- 'headlandlaw04.SetWhere', WHERE WHAT IT READS IS OF BULK AT MOST 1048576: true; the input reads as it did. -/
def setWhereUptoRow : OpenClaim := { program := "ytldikbpclaeajaagreatdoor", sum := "98279c48247df41890c98907c0835422808d99ba46253cede75ec417bcfc0a14", func := "headland/headlandlaw04.SetWhere", spec := "setWhere", unfollowed := true, recurses := true, named := ["internal/strconv.uint64pow10", "math/bits.deBruijn32tab", "math/bits.deBruijn64tab"], apart := false, laid := [("math/bits.deBruijn32tab", laid_math_bits_deBruijn32tab), ("math/bits.deBruijn64tab", laid_math_bits_deBruijn64tab), ("internal/strconv.uint64pow10", laid_internal_strconv_uint64pow10)], narrowed := true }
def SetWhereUptoSaid : Prop := setWhereUptoRow.holds Tryz.pinned (OpenSpec.upto setWhereSpec)

/-- 'headlandlaw04.SetStays', WHERE WHAT IT READS IS OF BULK AT MOST 1048576: true; the input reads as it did. -/
def setStaysUptoRow : OpenClaim := { program := "ytldikbpclaeajaagreatdoor", sum := "98279c48247df41890c98907c0835422808d99ba46253cede75ec417bcfc0a14", func := "headland/headlandlaw04.SetStays", spec := "setStays", unfollowed := true, recurses := true, named := ["internal/strconv.uint64pow10", "math/bits.deBruijn32tab", "math/bits.deBruijn64tab"], apart := false, laid := [("math/bits.deBruijn32tab", laid_math_bits_deBruijn32tab), ("math/bits.deBruijn64tab", laid_math_bits_deBruijn64tab), ("internal/strconv.uint64pow10", laid_internal_strconv_uint64pow10)], narrowed := true }
def SetStaysUptoSaid : Prop := setStaysUptoRow.holds Tryz.pinned (OpenSpec.upto setStaysSpec)

/-- 'headlandlaw04.SetHas', WHERE WHAT IT READS IS OF BULK AT MOST 1048576: true; the input reads as it did. -/
def setHasUptoRow : OpenClaim := { program := "ytldikbpclaeajaagreatdoor", sum := "98279c48247df41890c98907c0835422808d99ba46253cede75ec417bcfc0a14", func := "headland/headlandlaw04.SetHas", spec := "setHas", unfollowed := true, recurses := true, named := ["internal/strconv.uint64pow10", "math/bits.deBruijn32tab", "math/bits.deBruijn64tab"], apart := false, laid := [("math/bits.deBruijn32tab", laid_math_bits_deBruijn32tab), ("math/bits.deBruijn64tab", laid_math_bits_deBruijn64tab), ("internal/strconv.uint64pow10", laid_internal_strconv_uint64pow10)], narrowed := true }
def SetHasUptoSaid : Prop := setHasUptoRow.holds Tryz.pinned (OpenSpec.upto setHasSpec)

/-- 'headlandlaw04.SetApart', WHERE WHAT IT READS IS OF BULK AT MOST 1048576: true; the input reads as it did. -/
def setApartUptoRow : OpenClaim := { program := "ytldikbpclaeajaagreatdoor", sum := "98279c48247df41890c98907c0835422808d99ba46253cede75ec417bcfc0a14", func := "headland/headlandlaw04.SetApart", spec := "setApart", unfollowed := true, recurses := true, named := ["internal/strconv.uint64pow10", "math/bits.deBruijn32tab", "math/bits.deBruijn64tab"], apart := false, laid := [("math/bits.deBruijn32tab", laid_math_bits_deBruijn32tab), ("math/bits.deBruijn64tab", laid_math_bits_deBruijn64tab), ("internal/strconv.uint64pow10", laid_internal_strconv_uint64pow10)], narrowed := true }
def SetApartUptoSaid : Prop := setApartUptoRow.holds Tryz.pinned (OpenSpec.upto setApartSpec)

/-- 'headlandlaw04.SetPoints', WHERE WHAT IT READS IS OF BULK AT MOST 1048576: true; the input reads as it did. -/
def setPointsUptoRow : OpenClaim := { program := "ytldikbpclaeajaagreatdoor", sum := "98279c48247df41890c98907c0835422808d99ba46253cede75ec417bcfc0a14", func := "headland/headlandlaw04.SetPoints", spec := "setPoints", unfollowed := true, recurses := true, named := ["internal/strconv.uint64pow10", "math/bits.deBruijn32tab", "math/bits.deBruijn64tab"], apart := false, laid := [("math/bits.deBruijn32tab", laid_math_bits_deBruijn32tab), ("math/bits.deBruijn64tab", laid_math_bits_deBruijn64tab), ("internal/strconv.uint64pow10", laid_internal_strconv_uint64pow10)], narrowed := true }
def SetPointsUptoSaid : Prop := setPointsUptoRow.holds Tryz.pinned (OpenSpec.upto setPointsSpec)

/-- 'headlandlaw04.SetTurns', WHERE WHAT IT READS IS OF BULK AT MOST 1048576: true; the input reads as it did. -/
def setTurnsUptoRow : OpenClaim := { program := "ytldikbpclaeajaagreatdoor", sum := "98279c48247df41890c98907c0835422808d99ba46253cede75ec417bcfc0a14", func := "headland/headlandlaw04.SetTurns", spec := "setTurns", inPlace := ["slices.overlaps[int]"], unfollowed := true, recurses := true, named := ["internal/strconv.uint64pow10", "math/bits.deBruijn32tab", "math/bits.deBruijn64tab"], apart := false, laid := [("math/bits.deBruijn32tab", laid_math_bits_deBruijn32tab), ("math/bits.deBruijn64tab", laid_math_bits_deBruijn64tab), ("internal/strconv.uint64pow10", laid_internal_strconv_uint64pow10)], narrowed := true }
def SetTurnsUptoSaid : Prop := setTurnsUptoRow.holds Tryz.pinned (OpenSpec.upto setTurnsSpec)

end Rows
end Go.Proofs.YtldikbpclaeajaaGreatDoor
