/-
  DERIVED. GIVEN WITH THE SEED: THE CARDS: each row of YtlgcdacpjcnjgaaGreatDoorRows.lean that lists a variable, with what it lists TIED to the program's text (the seventh form; the later family's looks); each row that meets fmt, with fmt's text TOLD by the authors' own Lean function (tested against real Go, not proved from fmt's source: count such statements apart). THE CARD IS WHAT COUNTS. Prove the row's statement (the work); the ties are given (YtlgcdacpjcnjgaaGreatDoorTie.lean); close each card by the builder's one call (the guide's Derived/Test/ToyasCard.lean, 'card_holds'). Laid BY PROGRAM, IN A SANDBOX (cutbox-door.mjs). By AI agents, Wed Nov 11 2026. No macro, syntax, notation, axiom, sorry.
-/
import Derived.Test.YtlgcdacpjcnjgaaGreatDoorRows
import GoSem.ClaimSeven
namespace Go.Proofs.YtlgcdacpjcnjgaaGreatDoor
namespace Rows

/-- THE TIED CARD OF 'laws.FnCells'. -/
def fnCellsCard : Claim7 := { stood := { row := fnCellsRow, standIns := [], harness := (true, "444d1d57103840ba91aaad256161686fde965c0d9d1228ac1f488072116af4b0"), looks := false }, kinds := [], alts := [], laidByText := true, laidKinds := [.data, .pinned], laidTests := true, laidLooks := .later }
def FnCellsCardSaid : Prop := Claim7.holds Tryz.pinned (.plain (OpenSpec.ofChange fnCellsSpec)) fnCellsCard

/-- THE SECOND FORM's CARD OF 'laws.FnCells'. -/
def fnCellsUptoCard : Claim7 := { stood := { row := fnCellsUptoRow, standIns := [], harness := (true, "444d1d57103840ba91aaad256161686fde965c0d9d1228ac1f488072116af4b0"), looks := false }, kinds := [], alts := [], laidByText := true, laidKinds := [.data, .pinned], laidTests := true, laidLooks := .later }
def FnCellsUptoCardSaid : Prop := Claim7.holds Tryz.pinned (.plain (OpenSpec.upto fnCellsSpec)) fnCellsUptoCard
end Rows
end Go.Proofs.YtlgcdacpjcnjgaaGreatDoor
