/-
  DERIVED. GIVEN WITH THE SEED: THE CARDS: each row of YtgpdnmfpgkkgcaaGreatDoorRows.lean that lists a variable, with what it lists TIED to the program's text (the seventh form; the later family's looks); each row that meets fmt, with fmt's text TOLD by the authors' own Lean function (tested against real Go, not proved from fmt's source: count such statements apart). THE CARD IS WHAT COUNTS. Prove the row's statement (the work); the ties are given (YtgpdnmfpgkkgcaaGreatDoorTie.lean); close each card by the builder's one call (the guide's Derived/Test/ToyasCard.lean, 'card_holds'). Laid BY PROGRAM, IN A SANDBOX (cutbox-door.mjs). By AI agents, Wed Nov 11 2026. No macro, syntax, notation, axiom, sorry.
-/
import Derived.Test.YtgpdnmfpgkkgcaaGreatDoorRows
import GoSem.ClaimSeven
namespace Go.Proofs.YtgpdnmfpgkkgcaaGreatDoor
namespace Rows

/-- THE TIED CARD OF 'headlandlaw05.ElimShadows'. -/
def elimShadowsCard : Claim7 := { stood := { row := elimShadowsRow, standIns := [], harness := (true, "7f30e75886549e674adff3be98971c3ee7e7b56e749a5a1954b8ab487753f3f5"), looks := false }, kinds := [], alts := [], laidByText := true, laidKinds := [.data, .data, .data], laidTests := true, laidLooks := .later }
def ElimShadowsCardSaid : Prop := Claim7.holds Tryz.pinned (.plain (OpenSpec.ofChange elimShadowsSpec)) elimShadowsCard

/-- THE TIED CARD OF 'headlandlaw05.ElimEmpty'. -/
def elimEmptyCard : Claim7 := { stood := { row := elimEmptyRow, standIns := [], harness := (true, "7f30e75886549e674adff3be98971c3ee7e7b56e749a5a1954b8ab487753f3f5"), looks := false }, kinds := [], alts := [], laidByText := true, laidKinds := [.data, .data, .data], laidTests := true, laidLooks := .later }
def ElimEmptyCardSaid : Prop := Claim7.holds Tryz.pinned (.plain (OpenSpec.ofChange elimEmptySpec)) elimEmptyCard

/-- THE TIED CARD OF 'headlandlaw05.ElimPoints'. -/
def elimPointsCard : Claim7 := { stood := { row := elimPointsRow, standIns := [], harness := (true, "7f30e75886549e674adff3be98971c3ee7e7b56e749a5a1954b8ab487753f3f5"), looks := false }, kinds := [], alts := [], laidByText := true, laidKinds := [.data, .data, .data], laidTests := true, laidLooks := .later }
def ElimPointsCardSaid : Prop := Claim7.holds Tryz.pinned (.plain (OpenSpec.ofChange elimPointsSpec)) elimPointsCard

/-- THE TIED CARD OF 'headlandlaw05.ElimNone'. -/
def elimNoneCard : Claim7 := { stood := { row := elimNoneRow, standIns := [], harness := (true, "7f30e75886549e674adff3be98971c3ee7e7b56e749a5a1954b8ab487753f3f5"), looks := false }, kinds := [], alts := [], laidByText := true, laidKinds := [.data, .data, .data], laidTests := true, laidLooks := .later }
def ElimNoneCardSaid : Prop := Claim7.holds Tryz.pinned (.plain (OpenSpec.ofChange elimNoneSpec)) elimNoneCard

/-- THE TIED CARD OF 'headlandlaw05.ElimPicks'. -/
def elimPicksCard : Claim7 := { stood := { row := elimPicksRow, standIns := [], harness := (true, "7f30e75886549e674adff3be98971c3ee7e7b56e749a5a1954b8ab487753f3f5"), looks := false }, kinds := [], alts := [], laidByText := true, laidKinds := [.data, .data, .data], laidTests := true, laidLooks := .later }
def ElimPicksCardSaid : Prop := Claim7.holds Tryz.pinned (.plain (OpenSpec.ofChange elimPicksSpec)) elimPicksCard

/-- THE TIED CARD OF 'headlandlaw05.ElimOrder'. -/
def elimOrderCard : Claim7 := { stood := { row := elimOrderRow, standIns := [], harness := (true, "7f30e75886549e674adff3be98971c3ee7e7b56e749a5a1954b8ab487753f3f5"), looks := false }, kinds := [], alts := [], laidByText := true, laidKinds := [.data, .data, .data], laidTests := true, laidLooks := .later }
def ElimOrderCardSaid : Prop := Claim7.holds Tryz.pinned (.plain (OpenSpec.ofChange elimOrderSpec)) elimOrderCard

/-- THE TIED CARD OF 'headlandlaw05.ElimMany'. -/
def elimManyCard : Claim7 := { stood := { row := elimManyRow, standIns := [], harness := (true, "7f30e75886549e674adff3be98971c3ee7e7b56e749a5a1954b8ab487753f3f5"), looks := false }, kinds := [], alts := [], laidByText := true, laidKinds := [.data, .data, .data], laidTests := true, laidLooks := .later }
def ElimManyCardSaid : Prop := Claim7.holds Tryz.pinned (.plain (OpenSpec.ofChange elimManySpec)) elimManyCard

/-- THE TIED CARD OF 'headlandlaw05.ElimWithin'. -/
def elimWithinCard : Claim7 := { stood := { row := elimWithinRow, standIns := [], harness := (true, "7f30e75886549e674adff3be98971c3ee7e7b56e749a5a1954b8ab487753f3f5"), looks := false }, kinds := [], alts := [], laidByText := true, laidKinds := [.data, .data, .data], laidTests := true, laidLooks := .later }
def ElimWithinCardSaid : Prop := Claim7.holds Tryz.pinned (.plain (OpenSpec.ofChange elimWithinSpec)) elimWithinCard

/-- THE TIED CARD OF 'headlandlaw05.ElimInside'. -/
def elimInsideCard : Claim7 := { stood := { row := elimInsideRow, standIns := [], harness := (true, "7f30e75886549e674adff3be98971c3ee7e7b56e749a5a1954b8ab487753f3f5"), looks := false }, kinds := [], alts := [], laidByText := true, laidKinds := [.data, .data, .data], laidTests := true, laidLooks := .later }
def ElimInsideCardSaid : Prop := Claim7.holds Tryz.pinned (.plain (OpenSpec.ofChange elimInsideSpec)) elimInsideCard

/-- THE SECOND FORM's CARD OF 'headlandlaw05.ElimShadows'. -/
def elimShadowsUptoCard : Claim7 := { stood := { row := elimShadowsUptoRow, standIns := [], harness := (true, "7f30e75886549e674adff3be98971c3ee7e7b56e749a5a1954b8ab487753f3f5"), looks := false }, kinds := [], alts := [], laidByText := true, laidKinds := [.data, .data, .data], laidTests := true, laidLooks := .later }
def ElimShadowsUptoCardSaid : Prop := Claim7.holds Tryz.pinned (.plain (OpenSpec.upto elimShadowsSpec)) elimShadowsUptoCard

/-- THE SECOND FORM's CARD OF 'headlandlaw05.ElimEmpty'. -/
def elimEmptyUptoCard : Claim7 := { stood := { row := elimEmptyUptoRow, standIns := [], harness := (true, "7f30e75886549e674adff3be98971c3ee7e7b56e749a5a1954b8ab487753f3f5"), looks := false }, kinds := [], alts := [], laidByText := true, laidKinds := [.data, .data, .data], laidTests := true, laidLooks := .later }
def ElimEmptyUptoCardSaid : Prop := Claim7.holds Tryz.pinned (.plain (OpenSpec.upto elimEmptySpec)) elimEmptyUptoCard

/-- THE SECOND FORM's CARD OF 'headlandlaw05.ElimPoints'. -/
def elimPointsUptoCard : Claim7 := { stood := { row := elimPointsUptoRow, standIns := [], harness := (true, "7f30e75886549e674adff3be98971c3ee7e7b56e749a5a1954b8ab487753f3f5"), looks := false }, kinds := [], alts := [], laidByText := true, laidKinds := [.data, .data, .data], laidTests := true, laidLooks := .later }
def ElimPointsUptoCardSaid : Prop := Claim7.holds Tryz.pinned (.plain (OpenSpec.upto elimPointsSpec)) elimPointsUptoCard

/-- THE SECOND FORM's CARD OF 'headlandlaw05.ElimNone'. -/
def elimNoneUptoCard : Claim7 := { stood := { row := elimNoneUptoRow, standIns := [], harness := (true, "7f30e75886549e674adff3be98971c3ee7e7b56e749a5a1954b8ab487753f3f5"), looks := false }, kinds := [], alts := [], laidByText := true, laidKinds := [.data, .data, .data], laidTests := true, laidLooks := .later }
def ElimNoneUptoCardSaid : Prop := Claim7.holds Tryz.pinned (.plain (OpenSpec.upto elimNoneSpec)) elimNoneUptoCard

/-- THE SECOND FORM's CARD OF 'headlandlaw05.ElimPicks'. -/
def elimPicksUptoCard : Claim7 := { stood := { row := elimPicksUptoRow, standIns := [], harness := (true, "7f30e75886549e674adff3be98971c3ee7e7b56e749a5a1954b8ab487753f3f5"), looks := false }, kinds := [], alts := [], laidByText := true, laidKinds := [.data, .data, .data], laidTests := true, laidLooks := .later }
def ElimPicksUptoCardSaid : Prop := Claim7.holds Tryz.pinned (.plain (OpenSpec.upto elimPicksSpec)) elimPicksUptoCard

/-- THE SECOND FORM's CARD OF 'headlandlaw05.ElimOrder'. -/
def elimOrderUptoCard : Claim7 := { stood := { row := elimOrderUptoRow, standIns := [], harness := (true, "7f30e75886549e674adff3be98971c3ee7e7b56e749a5a1954b8ab487753f3f5"), looks := false }, kinds := [], alts := [], laidByText := true, laidKinds := [.data, .data, .data], laidTests := true, laidLooks := .later }
def ElimOrderUptoCardSaid : Prop := Claim7.holds Tryz.pinned (.plain (OpenSpec.upto elimOrderSpec)) elimOrderUptoCard

/-- THE SECOND FORM's CARD OF 'headlandlaw05.ElimMany'. -/
def elimManyUptoCard : Claim7 := { stood := { row := elimManyUptoRow, standIns := [], harness := (true, "7f30e75886549e674adff3be98971c3ee7e7b56e749a5a1954b8ab487753f3f5"), looks := false }, kinds := [], alts := [], laidByText := true, laidKinds := [.data, .data, .data], laidTests := true, laidLooks := .later }
def ElimManyUptoCardSaid : Prop := Claim7.holds Tryz.pinned (.plain (OpenSpec.upto elimManySpec)) elimManyUptoCard

/-- THE SECOND FORM's CARD OF 'headlandlaw05.ElimWithin'. -/
def elimWithinUptoCard : Claim7 := { stood := { row := elimWithinUptoRow, standIns := [], harness := (true, "7f30e75886549e674adff3be98971c3ee7e7b56e749a5a1954b8ab487753f3f5"), looks := false }, kinds := [], alts := [], laidByText := true, laidKinds := [.data, .data, .data], laidTests := true, laidLooks := .later }
def ElimWithinUptoCardSaid : Prop := Claim7.holds Tryz.pinned (.plain (OpenSpec.upto elimWithinSpec)) elimWithinUptoCard

/-- THE SECOND FORM's CARD OF 'headlandlaw05.ElimInside'. -/
def elimInsideUptoCard : Claim7 := { stood := { row := elimInsideUptoRow, standIns := [], harness := (true, "7f30e75886549e674adff3be98971c3ee7e7b56e749a5a1954b8ab487753f3f5"), looks := false }, kinds := [], alts := [], laidByText := true, laidKinds := [.data, .data, .data], laidTests := true, laidLooks := .later }
def ElimInsideUptoCardSaid : Prop := Claim7.holds Tryz.pinned (.plain (OpenSpec.upto elimInsideSpec)) elimInsideUptoCard
end Rows
end Go.Proofs.YtgpdnmfpgkkgcaaGreatDoor
