/-
  NARROWER THAN 'FOR EVERY INPUT', by the rows' own cells (each row's printed sentence says how): ElimShadows: laid · ElimEmpty: laid · ElimPoints: laid · ElimNone: laid · ElimPicks: laid · ElimOrder: laid · ElimMany: laid · ElimWithin: laid · ElimInside: laid.
  DERIVED. THE GIVEN ROWS OF THIS SEAT. 9 by the template 'for every input the law returns true; each argument reads behind the call as it read before'; 0 by the template 'total and deterministic' (their statements: YtgpdnmfpgkkgcaaGreatDoorTotals.lean).
  GIVEN WITH THE SEED: the statements are not yours to turn. If you find one false, say at which input.
  Laid BY PROGRAM, IN A SANDBOX (cutbox-rows.mjs): the forced cells as the released guide's own fill.sh prints them over the translation a9450699957a706d… (all of the seat's roots in one cut). By AI agents, Wed Nov 11 2026. No macro, syntax, notation, axiom, sorry.
-/
import Derived.Test.YtgpdnmfpgkkgcaaGreatDoorChecked
import GoSem.Claim
import GoSem.ClaimJoined
import GoSem.ClaimMapViews
import Derived.JoinedTies
import Derived.KernelRfl
namespace Go.Proofs.YtgpdnmfpgkkgcaaGreatDoor
/- THE CELL 'sum', in the pinned program and in every row, IS THE sha256 OF THE DUMP (.gsa) THAT YtgpdnmfpgkkgcaaGreatDoorProg.lean LOADS. Nothing in Lean hashes anything: it is a label: what it is worth is what the hold of that sum in a sandbox is worth. -/
noncomputable def Tryz.pinned : Pinned := { name := "ytgpdnmfpgkkgcaagreatdoor", sum := "a9450699957a706dd89d065d3e2224ab390553587a5d855fff130a900885d69a", checked := Tryz.checked }
namespace Rows
def none {H : Type} : Left H := { results := [], args := [] }

/- WHAT THE LISTED PACKAGE-LEVEL VARIABLES READ AS WHEN THE CALL BEGINS. Each datum BY PROGRAM (the guide's laid-datum.mjs) off the statement by which the dump's own 'gosem.cut.vars' lays the variable. In a bare row this is a premise. The card (YtgpdnmfpgkkgcaaGreatDoorCards.lean) ties it to the program's text. -/
def laid_math_bits_deBruijn32tab {H : Type} : DataW H := .agg [.lit (.int .u8 0), .lit (.int .u8 1), .lit (.int .u8 28), .lit (.int .u8 2), .lit (.int .u8 29), .lit (.int .u8 14), .lit (.int .u8 24), .lit (.int .u8 3), .lit (.int .u8 30), .lit (.int .u8 22), .lit (.int .u8 20), .lit (.int .u8 15), .lit (.int .u8 25), .lit (.int .u8 17), .lit (.int .u8 4), .lit (.int .u8 8), .lit (.int .u8 31), .lit (.int .u8 27), .lit (.int .u8 13), .lit (.int .u8 23), .lit (.int .u8 21), .lit (.int .u8 19), .lit (.int .u8 16), .lit (.int .u8 7), .lit (.int .u8 26), .lit (.int .u8 12), .lit (.int .u8 18), .lit (.int .u8 6), .lit (.int .u8 11), .lit (.int .u8 5), .lit (.int .u8 10), .lit (.int .u8 9)]
def laid_math_bits_deBruijn64tab {H : Type} : DataW H := .agg [.lit (.int .u8 0), .lit (.int .u8 1), .lit (.int .u8 56), .lit (.int .u8 2), .lit (.int .u8 57), .lit (.int .u8 49), .lit (.int .u8 28), .lit (.int .u8 3), .lit (.int .u8 61), .lit (.int .u8 58), .lit (.int .u8 42), .lit (.int .u8 50), .lit (.int .u8 38), .lit (.int .u8 29), .lit (.int .u8 17), .lit (.int .u8 4), .lit (.int .u8 62), .lit (.int .u8 47), .lit (.int .u8 59), .lit (.int .u8 36), .lit (.int .u8 45), .lit (.int .u8 43), .lit (.int .u8 51), .lit (.int .u8 22), .lit (.int .u8 53), .lit (.int .u8 39), .lit (.int .u8 33), .lit (.int .u8 30), .lit (.int .u8 24), .lit (.int .u8 18), .lit (.int .u8 12), .lit (.int .u8 5), .lit (.int .u8 63), .lit (.int .u8 55), .lit (.int .u8 48), .lit (.int .u8 27), .lit (.int .u8 60), .lit (.int .u8 41), .lit (.int .u8 37), .lit (.int .u8 16), .lit (.int .u8 46), .lit (.int .u8 35), .lit (.int .u8 44), .lit (.int .u8 21), .lit (.int .u8 52), .lit (.int .u8 32), .lit (.int .u8 23), .lit (.int .u8 11), .lit (.int .u8 54), .lit (.int .u8 26), .lit (.int .u8 40), .lit (.int .u8 15), .lit (.int .u8 34), .lit (.int .u8 20), .lit (.int .u8 31), .lit (.int .u8 10), .lit (.int .u8 25), .lit (.int .u8 14), .lit (.int .u8 19), .lit (.int .u8 9), .lit (.int .u8 13), .lit (.int .u8 8), .lit (.int .u8 7), .lit (.int .u8 6)]
def laid_internal_strconv_uint64pow10 {H : Type} : DataW H := .agg [.lit (.int .u64 1), .lit (.int .u64 10), .lit (.int .u64 100), .lit (.int .u64 1000), .lit (.int .u64 10000), .lit (.int .u64 100000), .lit (.int .u64 1000000), .lit (.int .u64 10000000), .lit (.int .u64 100000000), .lit (.int .u64 1000000000), .lit (.int .u64 10000000000), .lit (.int .u64 100000000000), .lit (.int .u64 1000000000000), .lit (.int .u64 10000000000000), .lit (.int .u64 100000000000000), .lit (.int .u64 1000000000000000), .lit (.int .u64 10000000000000000), .lit (.int .u64 100000000000000000), .lit (.int .u64 1000000000000000000), .lit (.int .u64 10000000000000000000)]

/-- 'headlandlaw05.ElimShadows': WHATEVER THE INPUT: true; the input reads as it did. -/
def elimShadowsSpec : ChangeSpec := { name := "elimShadows", fn := fun _ => fun
  | [d1, d2] => { results := [.lit (.bool true)], args := [d1, d2] }
  | _ => none }
def elimShadowsRow : OpenClaim := { program := "ytgpdnmfpgkkgcaagreatdoor", sum := "a9450699957a706dd89d065d3e2224ab390553587a5d855fff130a900885d69a", func := "headland/headlandlaw05.ElimShadows", spec := "elimShadows", unfollowed := true, recurses := true, named := ["internal/strconv.uint64pow10", "math/bits.deBruijn32tab", "math/bits.deBruijn64tab"], apart := false, laid := [("math/bits.deBruijn32tab", laid_math_bits_deBruijn32tab), ("math/bits.deBruijn64tab", laid_math_bits_deBruijn64tab), ("internal/strconv.uint64pow10", laid_internal_strconv_uint64pow10)] }
def ElimShadowsSaid : Prop := elimShadowsRow.holds Tryz.pinned (OpenSpec.ofChange elimShadowsSpec)

/-- ITS FALSE NEIGHBOUR: 'it returns false'. Refute it at one input. -/
def elimShadowsWrong : ChangeSpec := { name := "elimShadows", fn := fun _ => fun
  | [d1, d2] => { results := [.lit (.bool false)], args := [d1, d2] }
  | _ => none }
def ElimShadowsWrongFalsely : Prop := elimShadowsRow.holds Tryz.pinned (OpenSpec.ofChange elimShadowsWrong)

/-- 'headlandlaw05.ElimEmpty': WHATEVER THE INPUT: true; the input reads as it did. -/
def elimEmptySpec : ChangeSpec := { name := "elimEmpty", fn := fun _ => fun
  | [d] => { results := [.lit (.bool true)], args := [d] }
  | _ => none }
def elimEmptyRow : OpenClaim := { program := "ytgpdnmfpgkkgcaagreatdoor", sum := "a9450699957a706dd89d065d3e2224ab390553587a5d855fff130a900885d69a", func := "headland/headlandlaw05.ElimEmpty", spec := "elimEmpty", unfollowed := true, recurses := true, named := ["internal/strconv.uint64pow10", "math/bits.deBruijn32tab", "math/bits.deBruijn64tab"], apart := false, laid := [("math/bits.deBruijn32tab", laid_math_bits_deBruijn32tab), ("math/bits.deBruijn64tab", laid_math_bits_deBruijn64tab), ("internal/strconv.uint64pow10", laid_internal_strconv_uint64pow10)] }
def ElimEmptySaid : Prop := elimEmptyRow.holds Tryz.pinned (OpenSpec.ofChange elimEmptySpec)

/-- ITS FALSE NEIGHBOUR: 'it returns false'. Refute it at one input. -/
def elimEmptyWrong : ChangeSpec := { name := "elimEmpty", fn := fun _ => fun
  | [d] => { results := [.lit (.bool false)], args := [d] }
  | _ => none }
def ElimEmptyWrongFalsely : Prop := elimEmptyRow.holds Tryz.pinned (OpenSpec.ofChange elimEmptyWrong)

/-- 'headlandlaw05.ElimPoints': WHATEVER THE INPUT: true; the input reads as it did. -/
def elimPointsSpec : ChangeSpec := { name := "elimPoints", fn := fun _ => fun
  | [d1, d2, d3] => { results := [.lit (.bool true)], args := [d1, d2, d3] }
  | _ => none }
def elimPointsRow : OpenClaim := { program := "ytgpdnmfpgkkgcaagreatdoor", sum := "a9450699957a706dd89d065d3e2224ab390553587a5d855fff130a900885d69a", func := "headland/headlandlaw05.ElimPoints", spec := "elimPoints", unfollowed := true, recurses := true, named := ["internal/strconv.uint64pow10", "math/bits.deBruijn32tab", "math/bits.deBruijn64tab"], apart := false, laid := [("math/bits.deBruijn32tab", laid_math_bits_deBruijn32tab), ("math/bits.deBruijn64tab", laid_math_bits_deBruijn64tab), ("internal/strconv.uint64pow10", laid_internal_strconv_uint64pow10)] }
def ElimPointsSaid : Prop := elimPointsRow.holds Tryz.pinned (OpenSpec.ofChange elimPointsSpec)

/-- ITS FALSE NEIGHBOUR: 'it returns false'. Refute it at one input. -/
def elimPointsWrong : ChangeSpec := { name := "elimPoints", fn := fun _ => fun
  | [d1, d2, d3] => { results := [.lit (.bool false)], args := [d1, d2, d3] }
  | _ => none }
def ElimPointsWrongFalsely : Prop := elimPointsRow.holds Tryz.pinned (OpenSpec.ofChange elimPointsWrong)

/-- 'headlandlaw05.ElimNone': WHATEVER THE INPUT: true; the input reads as it did. -/
def elimNoneSpec : ChangeSpec := { name := "elimNone", fn := fun _ => fun
  | [d] => { results := [.lit (.bool true)], args := [d] }
  | _ => none }
def elimNoneRow : OpenClaim := { program := "ytgpdnmfpgkkgcaagreatdoor", sum := "a9450699957a706dd89d065d3e2224ab390553587a5d855fff130a900885d69a", func := "headland/headlandlaw05.ElimNone", spec := "elimNone", unfollowed := true, recurses := true, named := ["internal/strconv.uint64pow10", "math/bits.deBruijn32tab", "math/bits.deBruijn64tab"], apart := false, laid := [("math/bits.deBruijn32tab", laid_math_bits_deBruijn32tab), ("math/bits.deBruijn64tab", laid_math_bits_deBruijn64tab), ("internal/strconv.uint64pow10", laid_internal_strconv_uint64pow10)] }
def ElimNoneSaid : Prop := elimNoneRow.holds Tryz.pinned (OpenSpec.ofChange elimNoneSpec)

/-- ITS FALSE NEIGHBOUR: 'it returns false'. Refute it at one input. -/
def elimNoneWrong : ChangeSpec := { name := "elimNone", fn := fun _ => fun
  | [d] => { results := [.lit (.bool false)], args := [d] }
  | _ => none }
def ElimNoneWrongFalsely : Prop := elimNoneRow.holds Tryz.pinned (OpenSpec.ofChange elimNoneWrong)

/-- 'headlandlaw05.ElimPicks': WHATEVER THE INPUT: true; the input reads as it did. -/
def elimPicksSpec : ChangeSpec := { name := "elimPicks", fn := fun _ => fun
  | [d1, d2] => { results := [.lit (.bool true)], args := [d1, d2] }
  | _ => none }
def elimPicksRow : OpenClaim := { program := "ytgpdnmfpgkkgcaagreatdoor", sum := "a9450699957a706dd89d065d3e2224ab390553587a5d855fff130a900885d69a", func := "headland/headlandlaw05.ElimPicks", spec := "elimPicks", unfollowed := true, recurses := true, named := ["internal/strconv.uint64pow10", "math/bits.deBruijn32tab", "math/bits.deBruijn64tab"], apart := false, laid := [("math/bits.deBruijn32tab", laid_math_bits_deBruijn32tab), ("math/bits.deBruijn64tab", laid_math_bits_deBruijn64tab), ("internal/strconv.uint64pow10", laid_internal_strconv_uint64pow10)] }
def ElimPicksSaid : Prop := elimPicksRow.holds Tryz.pinned (OpenSpec.ofChange elimPicksSpec)

/-- ITS FALSE NEIGHBOUR: 'it returns false'. Refute it at one input. -/
def elimPicksWrong : ChangeSpec := { name := "elimPicks", fn := fun _ => fun
  | [d1, d2] => { results := [.lit (.bool false)], args := [d1, d2] }
  | _ => none }
def ElimPicksWrongFalsely : Prop := elimPicksRow.holds Tryz.pinned (OpenSpec.ofChange elimPicksWrong)

/-- 'headlandlaw05.ElimOrder': WHATEVER THE INPUT: true; the input reads as it did. -/
def elimOrderSpec : ChangeSpec := { name := "elimOrder", fn := fun _ => fun
  | [d1, d2, d3, d4] => { results := [.lit (.bool true)], args := [d1, d2, d3, d4] }
  | _ => none }
def elimOrderRow : OpenClaim := { program := "ytgpdnmfpgkkgcaagreatdoor", sum := "a9450699957a706dd89d065d3e2224ab390553587a5d855fff130a900885d69a", func := "headland/headlandlaw05.ElimOrder", spec := "elimOrder", unfollowed := true, recurses := true, named := ["internal/strconv.uint64pow10", "math/bits.deBruijn32tab", "math/bits.deBruijn64tab"], apart := false, laid := [("math/bits.deBruijn32tab", laid_math_bits_deBruijn32tab), ("math/bits.deBruijn64tab", laid_math_bits_deBruijn64tab), ("internal/strconv.uint64pow10", laid_internal_strconv_uint64pow10)] }
def ElimOrderSaid : Prop := elimOrderRow.holds Tryz.pinned (OpenSpec.ofChange elimOrderSpec)

/-- ITS FALSE NEIGHBOUR: 'it returns false'. Refute it at one input. -/
def elimOrderWrong : ChangeSpec := { name := "elimOrder", fn := fun _ => fun
  | [d1, d2, d3, d4] => { results := [.lit (.bool false)], args := [d1, d2, d3, d4] }
  | _ => none }
def ElimOrderWrongFalsely : Prop := elimOrderRow.holds Tryz.pinned (OpenSpec.ofChange elimOrderWrong)

/-- 'headlandlaw05.ElimMany': WHATEVER THE INPUT: true; the input reads as it did. -/
def elimManySpec : ChangeSpec := { name := "elimMany", fn := fun _ => fun
  | [d1, d2, d3] => { results := [.lit (.bool true)], args := [d1, d2, d3] }
  | _ => none }
def elimManyRow : OpenClaim := { program := "ytgpdnmfpgkkgcaagreatdoor", sum := "a9450699957a706dd89d065d3e2224ab390553587a5d855fff130a900885d69a", func := "headland/headlandlaw05.ElimMany", spec := "elimMany", unfollowed := true, recurses := true, named := ["internal/strconv.uint64pow10", "math/bits.deBruijn32tab", "math/bits.deBruijn64tab"], apart := false, laid := [("math/bits.deBruijn32tab", laid_math_bits_deBruijn32tab), ("math/bits.deBruijn64tab", laid_math_bits_deBruijn64tab), ("internal/strconv.uint64pow10", laid_internal_strconv_uint64pow10)] }
def ElimManySaid : Prop := elimManyRow.holds Tryz.pinned (OpenSpec.ofChange elimManySpec)

/-- ITS FALSE NEIGHBOUR: 'it returns false'. Refute it at one input. -/
def elimManyWrong : ChangeSpec := { name := "elimMany", fn := fun _ => fun
  | [d1, d2, d3] => { results := [.lit (.bool false)], args := [d1, d2, d3] }
  | _ => none }
def ElimManyWrongFalsely : Prop := elimManyRow.holds Tryz.pinned (OpenSpec.ofChange elimManyWrong)

/-- 'headlandlaw05.ElimWithin': WHATEVER THE INPUT: true; the input reads as it did. -/
def elimWithinSpec : ChangeSpec := { name := "elimWithin", fn := fun _ => fun
  | [d1, d2] => { results := [.lit (.bool true)], args := [d1, d2] }
  | _ => none }
def elimWithinRow : OpenClaim := { program := "ytgpdnmfpgkkgcaagreatdoor", sum := "a9450699957a706dd89d065d3e2224ab390553587a5d855fff130a900885d69a", func := "headland/headlandlaw05.ElimWithin", spec := "elimWithin", unfollowed := true, recurses := true, named := ["internal/strconv.uint64pow10", "math/bits.deBruijn32tab", "math/bits.deBruijn64tab"], apart := false, laid := [("math/bits.deBruijn32tab", laid_math_bits_deBruijn32tab), ("math/bits.deBruijn64tab", laid_math_bits_deBruijn64tab), ("internal/strconv.uint64pow10", laid_internal_strconv_uint64pow10)] }
def ElimWithinSaid : Prop := elimWithinRow.holds Tryz.pinned (OpenSpec.ofChange elimWithinSpec)

/-- ITS FALSE NEIGHBOUR: 'it returns false'. Refute it at one input. -/
def elimWithinWrong : ChangeSpec := { name := "elimWithin", fn := fun _ => fun
  | [d1, d2] => { results := [.lit (.bool false)], args := [d1, d2] }
  | _ => none }
def ElimWithinWrongFalsely : Prop := elimWithinRow.holds Tryz.pinned (OpenSpec.ofChange elimWithinWrong)

/-- 'headlandlaw05.ElimInside': WHATEVER THE INPUT: true; the input reads as it did. -/
def elimInsideSpec : ChangeSpec := { name := "elimInside", fn := fun _ => fun
  | [d1, d2, d3] => { results := [.lit (.bool true)], args := [d1, d2, d3] }
  | _ => none }
def elimInsideRow : OpenClaim := { program := "ytgpdnmfpgkkgcaagreatdoor", sum := "a9450699957a706dd89d065d3e2224ab390553587a5d855fff130a900885d69a", func := "headland/headlandlaw05.ElimInside", spec := "elimInside", unfollowed := true, recurses := true, named := ["internal/strconv.uint64pow10", "math/bits.deBruijn32tab", "math/bits.deBruijn64tab"], apart := false, laid := [("math/bits.deBruijn32tab", laid_math_bits_deBruijn32tab), ("math/bits.deBruijn64tab", laid_math_bits_deBruijn64tab), ("internal/strconv.uint64pow10", laid_internal_strconv_uint64pow10)] }
def ElimInsideSaid : Prop := elimInsideRow.holds Tryz.pinned (OpenSpec.ofChange elimInsideSpec)

/-- ITS FALSE NEIGHBOUR: 'it returns false'. Refute it at one input. -/
def elimInsideWrong : ChangeSpec := { name := "elimInside", fn := fun _ => fun
  | [d1, d2, d3] => { results := [.lit (.bool false)], args := [d1, d2, d3] }
  | _ => none }
def ElimInsideWrongFalsely : Prop := elimInsideRow.holds Tryz.pinned (OpenSpec.ofChange elimInsideWrong)

/- THE SECOND FORM. 'bulk': how many values and letters a reading holds, each counted each time it is reached (what is shared counts as often as it is met; a slice's spare places count too). A statement '..UptoSaid' is the law's where the arguments, and the package variables that the reading takes, are together of bulk at most 1048576: NARROWER than '..Said'. Prove '..Said' where nothing that the law and all that it calls make is longer than what came in: it says more and counts as full. Else prove '..UptoSaid'. A law counts once. -/
mutual
def uptoBulk {H : Type} : DataW H → Nat
  | .lit (.string bytes) => bytes.length + 1
  | .lit _ => 1
  | .nil => 1
  | .ptr d => uptoBulk d + 1
  | .slice elems spare => uptoBulkAll elems + uptoBulkAll spare + 1
  | .agg parts => uptoBulkAll parts + 1
  | .iface _ d => uptoBulk d + 1
  | .map entries => uptoBulkEntries entries + 1
  | .held _ => 1
def uptoBulkAll {H : Type} : List (DataW H) → Nat
  | [] => 0
  | d :: r => uptoBulk d + uptoBulkAll r
def uptoBulkEntries {H : Type} : List (Lit × DataW H) → Nat
  | [] => 0
  | x :: r => uptoBulkEntry x + uptoBulkEntries r
def uptoBulkEntry {H : Type} : Lit × DataW H → Nat
  | (.string bytes, d) => bytes.length + uptoBulk d + 1
  | (_, d) => uptoBulk d + 1
 end
def uptoSmall : (H : Type) → List (DataW H) → Bool := fun _ ds => decide (uptoBulkAll ds ≤ 1048576)
def OpenSpec.upto (s : _root_.Go.ChangeSpec) : _root_.Go.OpenSpec := { _root_.Go.OpenSpec.ofChange s with cond := some uptoSmall }

/-- 'headlandlaw05.ElimShadows', WHERE WHAT IT READS IS OF BULK AT MOST 1048576: true; the input reads as it did. -/
def elimShadowsUptoRow : OpenClaim := { program := "ytgpdnmfpgkkgcaagreatdoor", sum := "a9450699957a706dd89d065d3e2224ab390553587a5d855fff130a900885d69a", func := "headland/headlandlaw05.ElimShadows", spec := "elimShadows", unfollowed := true, recurses := true, named := ["internal/strconv.uint64pow10", "math/bits.deBruijn32tab", "math/bits.deBruijn64tab"], apart := false, laid := [("math/bits.deBruijn32tab", laid_math_bits_deBruijn32tab), ("math/bits.deBruijn64tab", laid_math_bits_deBruijn64tab), ("internal/strconv.uint64pow10", laid_internal_strconv_uint64pow10)], narrowed := true }
def ElimShadowsUptoSaid : Prop := elimShadowsUptoRow.holds Tryz.pinned (OpenSpec.upto elimShadowsSpec)

/-- 'headlandlaw05.ElimEmpty', WHERE WHAT IT READS IS OF BULK AT MOST 1048576: true; the input reads as it did. -/
def elimEmptyUptoRow : OpenClaim := { program := "ytgpdnmfpgkkgcaagreatdoor", sum := "a9450699957a706dd89d065d3e2224ab390553587a5d855fff130a900885d69a", func := "headland/headlandlaw05.ElimEmpty", spec := "elimEmpty", unfollowed := true, recurses := true, named := ["internal/strconv.uint64pow10", "math/bits.deBruijn32tab", "math/bits.deBruijn64tab"], apart := false, laid := [("math/bits.deBruijn32tab", laid_math_bits_deBruijn32tab), ("math/bits.deBruijn64tab", laid_math_bits_deBruijn64tab), ("internal/strconv.uint64pow10", laid_internal_strconv_uint64pow10)], narrowed := true }
def ElimEmptyUptoSaid : Prop := elimEmptyUptoRow.holds Tryz.pinned (OpenSpec.upto elimEmptySpec)

/-- 'headlandlaw05.ElimPoints', WHERE WHAT IT READS IS OF BULK AT MOST 1048576: true; the input reads as it did. -/
def elimPointsUptoRow : OpenClaim := { program := "ytgpdnmfpgkkgcaagreatdoor", sum := "a9450699957a706dd89d065d3e2224ab390553587a5d855fff130a900885d69a", func := "headland/headlandlaw05.ElimPoints", spec := "elimPoints", unfollowed := true, recurses := true, named := ["internal/strconv.uint64pow10", "math/bits.deBruijn32tab", "math/bits.deBruijn64tab"], apart := false, laid := [("math/bits.deBruijn32tab", laid_math_bits_deBruijn32tab), ("math/bits.deBruijn64tab", laid_math_bits_deBruijn64tab), ("internal/strconv.uint64pow10", laid_internal_strconv_uint64pow10)], narrowed := true }
def ElimPointsUptoSaid : Prop := elimPointsUptoRow.holds Tryz.pinned (OpenSpec.upto elimPointsSpec)

/-- 'headlandlaw05.ElimNone', WHERE WHAT IT READS IS OF BULK AT MOST 1048576: true; the input reads as it did. -/
def elimNoneUptoRow : OpenClaim := { program := "ytgpdnmfpgkkgcaagreatdoor", sum := "a9450699957a706dd89d065d3e2224ab390553587a5d855fff130a900885d69a", func := "headland/headlandlaw05.ElimNone", spec := "elimNone", unfollowed := true, recurses := true, named := ["internal/strconv.uint64pow10", "math/bits.deBruijn32tab", "math/bits.deBruijn64tab"], apart := false, laid := [("math/bits.deBruijn32tab", laid_math_bits_deBruijn32tab), ("math/bits.deBruijn64tab", laid_math_bits_deBruijn64tab), ("internal/strconv.uint64pow10", laid_internal_strconv_uint64pow10)], narrowed := true }
def ElimNoneUptoSaid : Prop := elimNoneUptoRow.holds Tryz.pinned (OpenSpec.upto elimNoneSpec)

/-- 'headlandlaw05.ElimPicks', WHERE WHAT IT READS IS OF BULK AT MOST 1048576: true; the input reads as it did. -/
def elimPicksUptoRow : OpenClaim := { program := "ytgpdnmfpgkkgcaagreatdoor", sum := "a9450699957a706dd89d065d3e2224ab390553587a5d855fff130a900885d69a", func := "headland/headlandlaw05.ElimPicks", spec := "elimPicks", unfollowed := true, recurses := true, named := ["internal/strconv.uint64pow10", "math/bits.deBruijn32tab", "math/bits.deBruijn64tab"], apart := false, laid := [("math/bits.deBruijn32tab", laid_math_bits_deBruijn32tab), ("math/bits.deBruijn64tab", laid_math_bits_deBruijn64tab), ("internal/strconv.uint64pow10", laid_internal_strconv_uint64pow10)], narrowed := true }
def ElimPicksUptoSaid : Prop := elimPicksUptoRow.holds Tryz.pinned (OpenSpec.upto elimPicksSpec)

/-- 'headlandlaw05.ElimOrder', WHERE WHAT IT READS IS OF BULK AT MOST 1048576: true; the input reads as it did. -/
def elimOrderUptoRow : OpenClaim := { program := "ytgpdnmfpgkkgcaagreatdoor", sum := "a9450699957a706dd89d065d3e2224ab390553587a5d855fff130a900885d69a", func := "headland/headlandlaw05.ElimOrder", spec := "elimOrder", unfollowed := true, recurses := true, named := ["internal/strconv.uint64pow10", "math/bits.deBruijn32tab", "math/bits.deBruijn64tab"], apart := false, laid := [("math/bits.deBruijn32tab", laid_math_bits_deBruijn32tab), ("math/bits.deBruijn64tab", laid_math_bits_deBruijn64tab), ("internal/strconv.uint64pow10", laid_internal_strconv_uint64pow10)], narrowed := true }
def ElimOrderUptoSaid : Prop := elimOrderUptoRow.holds Tryz.pinned (OpenSpec.upto elimOrderSpec)

/-- 'headlandlaw05.ElimMany', WHERE WHAT IT READS IS OF BULK AT MOST 1048576: true; the input reads as it did. -/
def elimManyUptoRow : OpenClaim := { program := "ytgpdnmfpgkkgcaagreatdoor", sum := "a9450699957a706dd89d065d3e2224ab390553587a5d855fff130a900885d69a", func := "headland/headlandlaw05.ElimMany", spec := "elimMany", unfollowed := true, recurses := true, named := ["internal/strconv.uint64pow10", "math/bits.deBruijn32tab", "math/bits.deBruijn64tab"], apart := false, laid := [("math/bits.deBruijn32tab", laid_math_bits_deBruijn32tab), ("math/bits.deBruijn64tab", laid_math_bits_deBruijn64tab), ("internal/strconv.uint64pow10", laid_internal_strconv_uint64pow10)], narrowed := true }
def ElimManyUptoSaid : Prop := elimManyUptoRow.holds Tryz.pinned (OpenSpec.upto elimManySpec)

/-- 'headlandlaw05.ElimWithin', WHERE WHAT IT READS IS OF BULK AT MOST 1048576: true; the input reads as it did. -/
def elimWithinUptoRow : OpenClaim := { program := "ytgpdnmfpgkkgcaagreatdoor", sum := "a9450699957a706dd89d065d3e2224ab390553587a5d855fff130a900885d69a", func := "headland/headlandlaw05.ElimWithin", spec := "elimWithin", unfollowed := true, recurses := true, named := ["internal/strconv.uint64pow10", "math/bits.deBruijn32tab", "math/bits.deBruijn64tab"], apart := false, laid := [("math/bits.deBruijn32tab", laid_math_bits_deBruijn32tab), ("math/bits.deBruijn64tab", laid_math_bits_deBruijn64tab), ("internal/strconv.uint64pow10", laid_internal_strconv_uint64pow10)], narrowed := true }
def ElimWithinUptoSaid : Prop := elimWithinUptoRow.holds Tryz.pinned (OpenSpec.upto elimWithinSpec)

/-- 'headlandlaw05.ElimInside', WHERE WHAT IT READS IS OF BULK AT MOST 1048576: true; the input reads as it did. -/
def elimInsideUptoRow : OpenClaim := { program := "ytgpdnmfpgkkgcaagreatdoor", sum := "a9450699957a706dd89d065d3e2224ab390553587a5d855fff130a900885d69a", func := "headland/headlandlaw05.ElimInside", spec := "elimInside", unfollowed := true, recurses := true, named := ["internal/strconv.uint64pow10", "math/bits.deBruijn32tab", "math/bits.deBruijn64tab"], apart := false, laid := [("math/bits.deBruijn32tab", laid_math_bits_deBruijn32tab), ("math/bits.deBruijn64tab", laid_math_bits_deBruijn64tab), ("internal/strconv.uint64pow10", laid_internal_strconv_uint64pow10)], narrowed := true }
def ElimInsideUptoSaid : Prop := elimInsideUptoRow.holds Tryz.pinned (OpenSpec.upto elimInsideSpec)

end Rows
end Go.Proofs.YtgpdnmfpgkkgcaaGreatDoor
