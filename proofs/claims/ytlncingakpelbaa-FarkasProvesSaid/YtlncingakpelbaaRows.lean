/-
  No cell of these rows narrows 'for every input' (looked for: loops, veiled, ifaces, maps, wideKeys, modest, calm, conditions, laid).
  DERIVED. THE GIVEN ROWS OF THIS SEAT. 6 by the template 'for every input the law returns true; each argument reads behind the call as it read before'; 0 by the template 'total and deterministic' (their statements: YtlncingakpelbaaTotals.lean).
  GIVEN WITH THE SEED: the statements are not yours to turn. If you find one false, say at which input.
  Laid BY PROGRAM, IN A SANDBOX (cutbox-rows.mjs): the forced cells as the released guide's own fill.sh prints them over the translation 2051523ead6a7f7b… (all of the seat's roots in one cut). By AI agents, Wed Nov 11 2026. No macro, syntax, notation, axiom, sorry.
-/
import Derived.Test.YtlncingakpelbaaChecked
import GoSem.Claim
import GoSem.ClaimJoined
import GoSem.ClaimMapViews
import Derived.JoinedTies
import Derived.KernelRfl
namespace Go.Proofs.Ytlncingakpelbaa
/- THE CELL 'sum', in the pinned program and in every row, IS THE sha256 OF THE DUMP (.gsa) THAT YtlncingakpelbaaProg.lean LOADS. Nothing in Lean hashes anything: it is a label: what it is worth is what the hold of that sum in a sandbox is worth. -/
noncomputable def Try.pinned : Pinned := { name := "ytlncingakpelbaa", sum := "2051523ead6a7f7be4e435740aa10a0737db0d4d785a9e30982f1087c8aff8dc", checked := Try.checked }
namespace Rows
def none {H : Type} : Left H := { results := [], args := [] }

/-- 'headlandlaw09.FarkasProves': WHATEVER THE INPUT: true; the input reads as it did. -/
def farkasProvesSpec : ChangeSpec := { name := "farkasProves", fn := fun _ => fun
  | [d1, d2] => { results := [.lit (.bool true)], args := [d1, d2] }
  | _ => none }
def farkasProvesRow : OpenClaim := { program := "ytlncingakpelbaa", sum := "2051523ead6a7f7be4e435740aa10a0737db0d4d785a9e30982f1087c8aff8dc", func := "headland/headlandlaw09.FarkasProves", spec := "farkasProves", unfollowed := true, recurses := true, apart := false }
def FarkasProvesSaid : Prop := farkasProvesRow.holds Try.pinned (OpenSpec.ofChange farkasProvesSpec)

/-- ITS FALSE NEIGHBOUR: 'it returns false'. Refute it at one input. -/
def farkasProvesWrong : ChangeSpec := { name := "farkasProves", fn := fun _ => fun
  | [d1, d2] => { results := [.lit (.bool false)], args := [d1, d2] }
  | _ => none }
def FarkasProvesWrongFalsely : Prop := farkasProvesRow.holds Try.pinned (OpenSpec.ofChange farkasProvesWrong)

/-- 'headlandlaw09.FarkasReduced': WHATEVER THE INPUT: true; the input reads as it did. -/
def farkasReducedSpec : ChangeSpec := { name := "farkasReduced", fn := fun _ => fun
  | [d1, d2] => { results := [.lit (.bool true)], args := [d1, d2] }
  | _ => none }
def farkasReducedRow : OpenClaim := { program := "ytlncingakpelbaa", sum := "2051523ead6a7f7be4e435740aa10a0737db0d4d785a9e30982f1087c8aff8dc", func := "headland/headlandlaw09.FarkasReduced", spec := "farkasReduced", unfollowed := true, recurses := true, apart := false }
def FarkasReducedSaid : Prop := farkasReducedRow.holds Try.pinned (OpenSpec.ofChange farkasReducedSpec)

/-- ITS FALSE NEIGHBOUR: 'it returns false'. Refute it at one input. -/
def farkasReducedWrong : ChangeSpec := { name := "farkasReduced", fn := fun _ => fun
  | [d1, d2] => { results := [.lit (.bool false)], args := [d1, d2] }
  | _ => none }
def FarkasReducedWrongFalsely : Prop := farkasReducedRow.holds Try.pinned (OpenSpec.ofChange farkasReducedWrong)

/-- 'headlandlaw09.FarkasEmpty': WHATEVER THE INPUT: true; the input reads as it did. -/
def farkasEmptySpec : ChangeSpec := { name := "farkasEmpty", fn := fun _ => fun
  | [d] => { results := [.lit (.bool true)], args := [d] }
  | _ => none }
def farkasEmptyRow : OpenClaim := { program := "ytlncingakpelbaa", sum := "2051523ead6a7f7be4e435740aa10a0737db0d4d785a9e30982f1087c8aff8dc", func := "headland/headlandlaw09.FarkasEmpty", spec := "farkasEmpty", unfollowed := true, recurses := true, apart := false }
def FarkasEmptySaid : Prop := farkasEmptyRow.holds Try.pinned (OpenSpec.ofChange farkasEmptySpec)

/-- ITS FALSE NEIGHBOUR: 'it returns false'. Refute it at one input. -/
def farkasEmptyWrong : ChangeSpec := { name := "farkasEmpty", fn := fun _ => fun
  | [d] => { results := [.lit (.bool false)], args := [d] }
  | _ => none }
def FarkasEmptyWrongFalsely : Prop := farkasEmptyRow.holds Try.pinned (OpenSpec.ofChange farkasEmptyWrong)

/-- 'headlandlaw09.FarkasChecks': WHATEVER THE INPUT: true; the input reads as it did. -/
def farkasChecksSpec : ChangeSpec := { name := "farkasChecks", fn := fun _ => fun
  | [d1, d2, d3] => { results := [.lit (.bool true)], args := [d1, d2, d3] }
  | _ => none }
def farkasChecksRow : OpenClaim := { program := "ytlncingakpelbaa", sum := "2051523ead6a7f7be4e435740aa10a0737db0d4d785a9e30982f1087c8aff8dc", func := "headland/headlandlaw09.FarkasChecks", spec := "farkasChecks", unfollowed := true, recurses := true, apart := false }
def FarkasChecksSaid : Prop := farkasChecksRow.holds Try.pinned (OpenSpec.ofChange farkasChecksSpec)

/-- ITS FALSE NEIGHBOUR: 'it returns false'. Refute it at one input. -/
def farkasChecksWrong : ChangeSpec := { name := "farkasChecks", fn := fun _ => fun
  | [d1, d2, d3] => { results := [.lit (.bool false)], args := [d1, d2, d3] }
  | _ => none }
def FarkasChecksWrongFalsely : Prop := farkasChecksRow.holds Try.pinned (OpenSpec.ofChange farkasChecksWrong)

/-- 'headlandlaw09.FarkasOne': WHATEVER THE INPUT: true; the input reads as it did. -/
def farkasOneSpec : ChangeSpec := { name := "farkasOne", fn := fun _ => fun
  | [d1, d2] => { results := [.lit (.bool true)], args := [d1, d2] }
  | _ => none }
def farkasOneRow : OpenClaim := { program := "ytlncingakpelbaa", sum := "2051523ead6a7f7be4e435740aa10a0737db0d4d785a9e30982f1087c8aff8dc", func := "headland/headlandlaw09.FarkasOne", spec := "farkasOne", unfollowed := true, recurses := true, apart := false }
def FarkasOneSaid : Prop := farkasOneRow.holds Try.pinned (OpenSpec.ofChange farkasOneSpec)

/-- ITS FALSE NEIGHBOUR: 'it returns false'. Refute it at one input. -/
def farkasOneWrong : ChangeSpec := { name := "farkasOne", fn := fun _ => fun
  | [d1, d2] => { results := [.lit (.bool false)], args := [d1, d2] }
  | _ => none }
def FarkasOneWrongFalsely : Prop := farkasOneRow.holds Try.pinned (OpenSpec.ofChange farkasOneWrong)

/-- 'headlandlaw09.FarkasRefuted': WHATEVER THE INPUT: true; the input reads as it did. -/
def farkasRefutedSpec : ChangeSpec := { name := "farkasRefuted", fn := fun _ => fun
  | [d1, d2, d3, d4] => { results := [.lit (.bool true)], args := [d1, d2, d3, d4] }
  | _ => none }
def farkasRefutedRow : OpenClaim := { program := "ytlncingakpelbaa", sum := "2051523ead6a7f7be4e435740aa10a0737db0d4d785a9e30982f1087c8aff8dc", func := "headland/headlandlaw09.FarkasRefuted", spec := "farkasRefuted", unfollowed := true, recurses := true, apart := false }
def FarkasRefutedSaid : Prop := farkasRefutedRow.holds Try.pinned (OpenSpec.ofChange farkasRefutedSpec)

/-- ITS FALSE NEIGHBOUR: 'it returns false'. Refute it at one input. -/
def farkasRefutedWrong : ChangeSpec := { name := "farkasRefuted", fn := fun _ => fun
  | [d1, d2, d3, d4] => { results := [.lit (.bool false)], args := [d1, d2, d3, d4] }
  | _ => none }
def FarkasRefutedWrongFalsely : Prop := farkasRefutedRow.holds Try.pinned (OpenSpec.ofChange farkasRefutedWrong)

/- THE SECOND FORM. 'bulk': how many values and letters a reading holds, each counted each time it is reached (what is shared counts as often as it is met; a slice's spare places count too). A statement '..UptoSaid' is the law's where the arguments, and the package variables that the reading takes, are together of bulk at most 1048576: NARROWER than '..Said'. Prove '..Said' where nothing that the law and all that it calls make is longer than what came in: it says more and counts as full. Else prove '..UptoSaid'. A law counts once. -/
mutual
def uptoBulk {H : Type} : DataW H → Nat
  | .lit (.string bytes) => bytes.length + 1
  | .lit _ => 1
  | .nil => 1
  | .ptr d => uptoBulk d + 1
  | .slice elems spare => uptoBulkAll elems + uptoBulkAll spare + 1
  | .agg parts => uptoBulkAll parts + 1
  | .iface _ d => uptoBulk d + 1
  | .map entries => uptoBulkEntries entries + 1
  | .held _ => 1
def uptoBulkAll {H : Type} : List (DataW H) → Nat
  | [] => 0
  | d :: r => uptoBulk d + uptoBulkAll r
def uptoBulkEntries {H : Type} : List (Lit × DataW H) → Nat
  | [] => 0
  | x :: r => uptoBulkEntry x + uptoBulkEntries r
def uptoBulkEntry {H : Type} : Lit × DataW H → Nat
  | (.string bytes, d) => bytes.length + uptoBulk d + 1
  | (_, d) => uptoBulk d + 1
 end
def uptoSmall : (H : Type) → List (DataW H) → Bool := fun _ ds => decide (uptoBulkAll ds ≤ 1048576)
def OpenSpec.upto (s : _root_.Go.ChangeSpec) : _root_.Go.OpenSpec := { _root_.Go.OpenSpec.ofChange s with cond := some uptoSmall }

/-- 'headlandlaw09.FarkasProves', WHERE WHAT IT READS IS OF BULK AT MOST 1048576: true; the input reads as it did. -/
def farkasProvesUptoRow : OpenClaim := { program := "ytlncingakpelbaa", sum := "2051523ead6a7f7be4e435740aa10a0737db0d4d785a9e30982f1087c8aff8dc", func := "headland/headlandlaw09.FarkasProves", spec := "farkasProves", unfollowed := true, recurses := true, apart := false, narrowed := true }
def FarkasProvesUptoSaid : Prop := farkasProvesUptoRow.holds Try.pinned (OpenSpec.upto farkasProvesSpec)

/-- 'headlandlaw09.FarkasReduced', WHERE WHAT IT READS IS OF BULK AT MOST 1048576: true; the input reads as it did. -/
def farkasReducedUptoRow : OpenClaim := { program := "ytlncingakpelbaa", sum := "2051523ead6a7f7be4e435740aa10a0737db0d4d785a9e30982f1087c8aff8dc", func := "headland/headlandlaw09.FarkasReduced", spec := "farkasReduced", unfollowed := true, recurses := true, apart := false, narrowed := true }
def FarkasReducedUptoSaid : Prop := farkasReducedUptoRow.holds Try.pinned (OpenSpec.upto farkasReducedSpec)

/-- 'headlandlaw09.FarkasEmpty', WHERE WHAT IT READS IS OF BULK AT MOST 1048576: true; the input reads as it did. -/
def farkasEmptyUptoRow : OpenClaim := { program := "ytlncingakpelbaa", sum := "2051523ead6a7f7be4e435740aa10a0737db0d4d785a9e30982f1087c8aff8dc", func := "headland/headlandlaw09.FarkasEmpty", spec := "farkasEmpty", unfollowed := true, recurses := true, apart := false, narrowed := true }
def FarkasEmptyUptoSaid : Prop := farkasEmptyUptoRow.holds Try.pinned (OpenSpec.upto farkasEmptySpec)

/-- 'headlandlaw09.FarkasChecks', WHERE WHAT IT READS IS OF BULK AT MOST 1048576: true; the input reads as it did. -/
def farkasChecksUptoRow : OpenClaim := { program := "ytlncingakpelbaa", sum := "2051523ead6a7f7be4e435740aa10a0737db0d4d785a9e30982f1087c8aff8dc", func := "headland/headlandlaw09.FarkasChecks", spec := "farkasChecks", unfollowed := true, recurses := true, apart := false, narrowed := true }
def FarkasChecksUptoSaid : Prop := farkasChecksUptoRow.holds Try.pinned (OpenSpec.upto farkasChecksSpec)

/-- 'headlandlaw09.FarkasOne', WHERE WHAT IT READS IS OF BULK AT MOST 1048576: true; the input reads as it did. -/
def farkasOneUptoRow : OpenClaim := { program := "ytlncingakpelbaa", sum := "2051523ead6a7f7be4e435740aa10a0737db0d4d785a9e30982f1087c8aff8dc", func := "headland/headlandlaw09.FarkasOne", spec := "farkasOne", unfollowed := true, recurses := true, apart := false, narrowed := true }
def FarkasOneUptoSaid : Prop := farkasOneUptoRow.holds Try.pinned (OpenSpec.upto farkasOneSpec)

/-- 'headlandlaw09.FarkasRefuted', WHERE WHAT IT READS IS OF BULK AT MOST 1048576: true; the input reads as it did. -/
def farkasRefutedUptoRow : OpenClaim := { program := "ytlncingakpelbaa", sum := "2051523ead6a7f7be4e435740aa10a0737db0d4d785a9e30982f1087c8aff8dc", func := "headland/headlandlaw09.FarkasRefuted", spec := "farkasRefuted", unfollowed := true, recurses := true, apart := false, narrowed := true }
def FarkasRefutedUptoSaid : Prop := farkasRefutedUptoRow.holds Try.pinned (OpenSpec.upto farkasRefutedSpec)

end Rows
end Go.Proofs.Ytlncingakpelbaa
