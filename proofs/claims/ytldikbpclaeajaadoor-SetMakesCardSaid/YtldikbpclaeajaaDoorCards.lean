/-
  DERIVED. GIVEN WITH THE SEED: THE CARDS: each row of YtldikbpclaeajaaDoorRows.lean that lists a variable, with what it lists TIED to the program's text (the seventh form; the later family's looks); each row that meets fmt, with fmt's text TOLD by the authors' own Lean function (tested against real Go, not proved from fmt's source: count such statements apart). THE CARD IS WHAT COUNTS. Prove the row's statement (the work); the ties are given (YtldikbpclaeajaaDoorTie.lean); close each card by the builder's one call (the guide's Derived/Test/ToyasCard.lean, 'card_holds'). Laid BY PROGRAM, IN A SANDBOX (cutbox-door.mjs). By AI agents, Wed Nov 11 2026. No macro, syntax, notation, axiom, sorry.
-/
import Derived.Test.YtldikbpclaeajaaDoorRows
import GoSem.ClaimSeven
namespace Go.Proofs.YtldikbpclaeajaaDoor
namespace Rows

/-- THE TIED CARD OF 'headlandlaw04.SetMakes'. -/
def setMakesCard : Claim7 := { stood := { row := setMakesRow, standIns := [], harness := (true, "6c7558e0ec12ad8abe2fda98fc42d3e9a645fe8f5a352700659179fe72fc7ab0"), looks := false }, kinds := [], alts := [], laidByText := true, laidKinds := [.data, .data, .data], laidTests := true, laidLooks := .later }
def SetMakesCardSaid : Prop := Claim7.holds Tryd.pinned (.plain (OpenSpec.ofChange setMakesSpec)) setMakesCard

/-- THE TIED CARD OF 'headlandlaw04.SetHolds'. -/
def setHoldsCard : Claim7 := { stood := { row := setHoldsRow, standIns := [], harness := (true, "6c7558e0ec12ad8abe2fda98fc42d3e9a645fe8f5a352700659179fe72fc7ab0"), looks := false }, kinds := [], alts := [], laidByText := true, laidKinds := [.data, .data, .data], laidTests := true, laidLooks := .later }
def SetHoldsCardSaid : Prop := Claim7.holds Tryd.pinned (.plain (OpenSpec.ofChange setHoldsSpec)) setHoldsCard

/-- THE SECOND FORM's CARD OF 'headlandlaw04.SetMakes'. -/
def setMakesUptoCard : Claim7 := { stood := { row := setMakesUptoRow, standIns := [], harness := (true, "6c7558e0ec12ad8abe2fda98fc42d3e9a645fe8f5a352700659179fe72fc7ab0"), looks := false }, kinds := [], alts := [], laidByText := true, laidKinds := [.data, .data, .data], laidTests := true, laidLooks := .later }
def SetMakesUptoCardSaid : Prop := Claim7.holds Tryd.pinned (.plain (OpenSpec.upto setMakesSpec)) setMakesUptoCard

/-- THE SECOND FORM's CARD OF 'headlandlaw04.SetHolds'. -/
def setHoldsUptoCard : Claim7 := { stood := { row := setHoldsUptoRow, standIns := [], harness := (true, "6c7558e0ec12ad8abe2fda98fc42d3e9a645fe8f5a352700659179fe72fc7ab0"), looks := false }, kinds := [], alts := [], laidByText := true, laidKinds := [.data, .data, .data], laidTests := true, laidLooks := .later }
def SetHoldsUptoCardSaid : Prop := Claim7.holds Tryd.pinned (.plain (OpenSpec.upto setHoldsSpec)) setHoldsUptoCard
end Rows
end Go.Proofs.YtldikbpclaeajaaDoor
