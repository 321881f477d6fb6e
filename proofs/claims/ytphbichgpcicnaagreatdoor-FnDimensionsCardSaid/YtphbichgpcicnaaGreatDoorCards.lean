/-
  DERIVED. GIVEN WITH THE SEED: THE CARDS: each row of YtphbichgpcicnaaGreatDoorRows.lean that lists a variable, with what it lists TIED to the program's text (the seventh form; the later family's looks); each row that meets fmt, with fmt's text TOLD by the authors' own Lean function (tested against real Go, not proved from fmt's source: count such statements apart). THE CARD IS WHAT COUNTS. Prove the row's statement (the work); the ties are given (YtphbichgpcicnaaGreatDoorTie.lean); close each card by the builder's one call (the guide's Derived/Test/ToyasCard.lean, 'card_holds'). Laid BY PROGRAM, IN A SANDBOX (cutbox-door.mjs). By AI agents, Wed Nov 11 2026. No macro, syntax, notation, axiom, sorry.
-/
import Derived.Test.YtphbichgpcicnaaGreatDoorRows
import GoSem.ClaimSeven
namespace Go.Proofs.YtphbichgpcicnaaGreatDoor
namespace Rows

/-- THE TIED CARD OF 'laws.FnDimensions'. -/
def fnDimensionsCard : Claim7 := { stood := { row := fnDimensionsRow, standIns := [], harness := (true, "6051010365b82da39b1c8d4a7ddd9847600d2a8403e7bc301c2188ef7ce0bc07"), looks := false }, kinds := [], alts := [], laidByText := true, laidKinds := [.data, .pinned], laidTests := true, laidLooks := .later }
def FnDimensionsCardSaid : Prop := Claim7.holds Tryz.pinned (.plain (OpenSpec.ofChange fnDimensionsSpec)) fnDimensionsCard

/-- THE SECOND FORM's CARD OF 'laws.FnDimensions'. -/
def fnDimensionsUptoCard : Claim7 := { stood := { row := fnDimensionsUptoRow, standIns := [], harness := (true, "6051010365b82da39b1c8d4a7ddd9847600d2a8403e7bc301c2188ef7ce0bc07"), looks := false }, kinds := [], alts := [], laidByText := true, laidKinds := [.data, .pinned], laidTests := true, laidLooks := .later }
def FnDimensionsUptoCardSaid : Prop := Claim7.holds Tryz.pinned (.plain (OpenSpec.upto fnDimensionsSpec)) fnDimensionsUptoCard
end Rows
end Go.Proofs.YtphbichgpcicnaaGreatDoor
