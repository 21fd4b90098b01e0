/-
  DERIVED. GIVEN WITH THE SEED: THE CARDS: each row of YtldikbpclaeajaaGreatDoorRows.lean that lists a variable, with what it lists TIED to the program's text (the seventh form; the later family's looks); each row that meets fmt, with fmt's text TOLD by the authors' own Lean function (tested against real Go, not proved from fmt's source: count such statements apart). THE CARD IS WHAT COUNTS. Prove the row's statement (the work); the ties are given (YtldikbpclaeajaaGreatDoorTie.lean); close each card by the builder's one call (the guide's Derived/Test/ToyasCard.lean, 'card_holds'). Laid BY PROGRAM, IN A SANDBOX (cutbox-door.mjs). By AI agents, Wed Nov 11 2026. No macro, syntax, notation, axiom, sorry.
-/
import Derived.Test.YtldikbpclaeajaaGreatDoorRows
import GoSem.ClaimSeven
namespace Go.Proofs.YtldikbpclaeajaaGreatDoor
namespace Rows

/-- THE TIED CARD OF 'headlandlaw04.SetNormal'. -/
def setNormalCard : Claim7 := { stood := { row := setNormalRow, standIns := [], harness := (true, "8f2f3f5026b9c82f4c75cd848f8702b5dc81ff0cf797089978dd003840c7d53b"), looks := false }, kinds := [], alts := [], laidByText := true, laidKinds := [.data, .data, .data], laidTests := true, laidLooks := .later }
def SetNormalCardSaid : Prop := Claim7.holds Tryz.pinned (.plain (OpenSpec.ofChange setNormalSpec)) setNormalCard

/-- THE TIED CARD OF 'headlandlaw04.SetMinus'. -/
def setMinusCard : Claim7 := { stood := { row := setMinusRow, standIns := [], harness := (true, "8f2f3f5026b9c82f4c75cd848f8702b5dc81ff0cf797089978dd003840c7d53b"), looks := false }, kinds := [], alts := [], laidByText := true, laidKinds := [.data, .data, .data], laidTests := true, laidLooks := .later }
def SetMinusCardSaid : Prop := Claim7.holds Tryz.pinned (.plain (OpenSpec.ofChange setMinusSpec)) setMinusCard

/-- THE TIED CARD OF 'headlandlaw04.SetSimple'. -/
def setSimpleCard : Claim7 := { stood := { row := setSimpleRow, standIns := [], harness := (true, "8f2f3f5026b9c82f4c75cd848f8702b5dc81ff0cf797089978dd003840c7d53b"), looks := false }, kinds := [], alts := [], laidByText := true, laidKinds := [.data, .data, .data], laidTests := true, laidLooks := .later }
def SetSimpleCardSaid : Prop := Claim7.holds Tryz.pinned (.plain (OpenSpec.ofChange setSimpleSpec)) setSimpleCard

/-- THE TIED CARD OF 'headlandlaw04.SetJoins'. -/
def setJoinsCard : Claim7 := { stood := { row := setJoinsRow, standIns := [], harness := (true, "8f2f3f5026b9c82f4c75cd848f8702b5dc81ff0cf797089978dd003840c7d53b"), looks := false }, kinds := [], alts := [], laidByText := true, laidKinds := [.data, .data, .data], laidTests := true, laidLooks := .later }
def SetJoinsCardSaid : Prop := Claim7.holds Tryz.pinned (.plain (OpenSpec.ofChange setJoinsSpec)) setJoinsCard

/-- THE TIED CARD OF 'headlandlaw04.SetWhere'. -/
def setWhereCard : Claim7 := { stood := { row := setWhereRow, standIns := [], harness := (true, "8f2f3f5026b9c82f4c75cd848f8702b5dc81ff0cf797089978dd003840c7d53b"), looks := false }, kinds := [], alts := [], laidByText := true, laidKinds := [.data, .data, .data], laidTests := true, laidLooks := .later }
def SetWhereCardSaid : Prop := Claim7.holds Tryz.pinned (.plain (OpenSpec.ofChange setWhereSpec)) setWhereCard

/-- THE TIED CARD OF 'headlandlaw04.SetStays'. -/
def setStaysCard : Claim7 := { stood := { row := setStaysRow, standIns := [], harness := (true, "8f2f3f5026b9c82f4c75cd848f8702b5dc81ff0cf797089978dd003840c7d53b"), looks := false }, kinds := [], alts := [], laidByText := true, laidKinds := [.data, .data, .data], laidTests := true, laidLooks := .later }
def SetStaysCardSaid : Prop := Claim7.holds Tryz.pinned (.plain (OpenSpec.ofChange setStaysSpec)) setStaysCard

/-- THE TIED CARD OF 'headlandlaw04.SetHas'. -/
def setHasCard : Claim7 := { stood := { row := setHasRow, standIns := [], harness := (true, "8f2f3f5026b9c82f4c75cd848f8702b5dc81ff0cf797089978dd003840c7d53b"), looks := false }, kinds := [], alts := [], laidByText := true, laidKinds := [.data, .data, .data], laidTests := true, laidLooks := .later }
def SetHasCardSaid : Prop := Claim7.holds Tryz.pinned (.plain (OpenSpec.ofChange setHasSpec)) setHasCard

/-- THE TIED CARD OF 'headlandlaw04.SetApart'. -/
def setApartCard : Claim7 := { stood := { row := setApartRow, standIns := [], harness := (true, "8f2f3f5026b9c82f4c75cd848f8702b5dc81ff0cf797089978dd003840c7d53b"), looks := false }, kinds := [], alts := [], laidByText := true, laidKinds := [.data, .data, .data], laidTests := true, laidLooks := .later }
def SetApartCardSaid : Prop := Claim7.holds Tryz.pinned (.plain (OpenSpec.ofChange setApartSpec)) setApartCard

/-- THE TIED CARD OF 'headlandlaw04.SetPoints'. -/
def setPointsCard : Claim7 := { stood := { row := setPointsRow, standIns := [], harness := (true, "8f2f3f5026b9c82f4c75cd848f8702b5dc81ff0cf797089978dd003840c7d53b"), looks := false }, kinds := [], alts := [], laidByText := true, laidKinds := [.data, .data, .data], laidTests := true, laidLooks := .later }
def SetPointsCardSaid : Prop := Claim7.holds Tryz.pinned (.plain (OpenSpec.ofChange setPointsSpec)) setPointsCard

/-- THE TIED CARD OF 'headlandlaw04.SetTurns'. -/
def setTurnsCard : Claim7 := { stood := { row := setTurnsRow, standIns := [], harness := (true, "8f2f3f5026b9c82f4c75cd848f8702b5dc81ff0cf797089978dd003840c7d53b"), looks := false }, kinds := [], alts := [], laidByText := true, laidKinds := [.data, .data, .data], laidTests := true, laidLooks := .later }
def SetTurnsCardSaid : Prop := Claim7.holds Tryz.pinned (.plain (OpenSpec.ofChange setTurnsSpec)) setTurnsCard

/-- THE SECOND FORM's CARD OF 'headlandlaw04.SetNormal'. -/
def setNormalUptoCard : Claim7 := { stood := { row := setNormalUptoRow, standIns := [], harness := (true, "8f2f3f5026b9c82f4c75cd848f8702b5dc81ff0cf797089978dd003840c7d53b"), looks := false }, kinds := [], alts := [], laidByText := true, laidKinds := [.data, .data, .data], laidTests := true, laidLooks := .later }
def SetNormalUptoCardSaid : Prop := Claim7.holds Tryz.pinned (.plain (OpenSpec.upto setNormalSpec)) setNormalUptoCard

/-- THE SECOND FORM's CARD OF 'headlandlaw04.SetMinus'. -/
def setMinusUptoCard : Claim7 := { stood := { row := setMinusUptoRow, standIns := [], harness := (true, "8f2f3f5026b9c82f4c75cd848f8702b5dc81ff0cf797089978dd003840c7d53b"), looks := false }, kinds := [], alts := [], laidByText := true, laidKinds := [.data, .data, .data], laidTests := true, laidLooks := .later }
def SetMinusUptoCardSaid : Prop := Claim7.holds Tryz.pinned (.plain (OpenSpec.upto setMinusSpec)) setMinusUptoCard

/-- THE SECOND FORM's CARD OF 'headlandlaw04.SetSimple'. -/
def setSimpleUptoCard : Claim7 := { stood := { row := setSimpleUptoRow, standIns := [], harness := (true, "8f2f3f5026b9c82f4c75cd848f8702b5dc81ff0cf797089978dd003840c7d53b"), looks := false }, kinds := [], alts := [], laidByText := true, laidKinds := [.data, .data, .data], laidTests := true, laidLooks := .later }
def SetSimpleUptoCardSaid : Prop := Claim7.holds Tryz.pinned (.plain (OpenSpec.upto setSimpleSpec)) setSimpleUptoCard

/-- THE SECOND FORM's CARD OF 'headlandlaw04.SetJoins'. -/
def setJoinsUptoCard : Claim7 := { stood := { row := setJoinsUptoRow, standIns := [], harness := (true, "8f2f3f5026b9c82f4c75cd848f8702b5dc81ff0cf797089978dd003840c7d53b"), looks := false }, kinds := [], alts := [], laidByText := true, laidKinds := [.data, .data, .data], laidTests := true, laidLooks := .later }
def SetJoinsUptoCardSaid : Prop := Claim7.holds Tryz.pinned (.plain (OpenSpec.upto setJoinsSpec)) setJoinsUptoCard

/-- THE SECOND FORM's CARD OF 'headlandlaw04.SetWhere'. -/
def setWhereUptoCard : Claim7 := { stood := { row := setWhereUptoRow, standIns := [], harness := (true, "8f2f3f5026b9c82f4c75cd848f8702b5dc81ff0cf797089978dd003840c7d53b"), looks := false }, kinds := [], alts := [], laidByText := true, laidKinds := [.data, .data, .data], laidTests := true, laidLooks := .later }
def SetWhereUptoCardSaid : Prop := Claim7.holds Tryz.pinned (.plain (OpenSpec.upto setWhereSpec)) setWhereUptoCard

/-- THE SECOND FORM's CARD OF 'headlandlaw04.SetStays'. -/
def setStaysUptoCard : Claim7 := { stood := { row := setStaysUptoRow, standIns := [], harness := (true, "8f2f3f5026b9c82f4c75cd848f8702b5dc81ff0cf797089978dd003840c7d53b"), looks := false }, kinds := [], alts := [], laidByText := true, laidKinds := [.data, .data, .data], laidTests := true, laidLooks := .later }
def SetStaysUptoCardSaid : Prop := Claim7.holds Tryz.pinned (.plain (OpenSpec.upto setStaysSpec)) setStaysUptoCard

/-- THE SECOND FORM's CARD OF 'headlandlaw04.SetHas'. -/
def setHasUptoCard : Claim7 := { stood := { row := setHasUptoRow, standIns := [], harness := (true, "8f2f3f5026b9c82f4c75cd848f8702b5dc81ff0cf797089978dd003840c7d53b"), looks := false }, kinds := [], alts := [], laidByText := true, laidKinds := [.data, .data, .data], laidTests := true, laidLooks := .later }
def SetHasUptoCardSaid : Prop := Claim7.holds Tryz.pinned (.plain (OpenSpec.upto setHasSpec)) setHasUptoCard

/-- THE SECOND FORM's CARD OF 'headlandlaw04.SetApart'. -/
def setApartUptoCard : Claim7 := { stood := { row := setApartUptoRow, standIns := [], harness := (true, "8f2f3f5026b9c82f4c75cd848f8702b5dc81ff0cf797089978dd003840c7d53b"), looks := false }, kinds := [], alts := [], laidByText := true, laidKinds := [.data, .data, .data], laidTests := true, laidLooks := .later }
def SetApartUptoCardSaid : Prop := Claim7.holds Tryz.pinned (.plain (OpenSpec.upto setApartSpec)) setApartUptoCard

/-- THE SECOND FORM's CARD OF 'headlandlaw04.SetPoints'. -/
def setPointsUptoCard : Claim7 := { stood := { row := setPointsUptoRow, standIns := [], harness := (true, "8f2f3f5026b9c82f4c75cd848f8702b5dc81ff0cf797089978dd003840c7d53b"), looks := false }, kinds := [], alts := [], laidByText := true, laidKinds := [.data, .data, .data], laidTests := true, laidLooks := .later }
def SetPointsUptoCardSaid : Prop := Claim7.holds Tryz.pinned (.plain (OpenSpec.upto setPointsSpec)) setPointsUptoCard

/-- THE SECOND FORM's CARD OF 'headlandlaw04.SetTurns'. -/
def setTurnsUptoCard : Claim7 := { stood := { row := setTurnsUptoRow, standIns := [], harness := (true, "8f2f3f5026b9c82f4c75cd848f8702b5dc81ff0cf797089978dd003840c7d53b"), looks := false }, kinds := [], alts := [], laidByText := true, laidKinds := [.data, .data, .data], laidTests := true, laidLooks := .later }
def SetTurnsUptoCardSaid : Prop := Claim7.holds Tryz.pinned (.plain (OpenSpec.upto setTurnsSpec)) setTurnsUptoCard
end Rows
end Go.Proofs.YtldikbpclaeajaaGreatDoor
