/-
  DERIVED. GIVEN WITH THE SEED: THE CARDS: each row of YtallmimhfmaapaaGreatDoorRows.lean that lists a variable, with what it lists TIED to the program's text (the seventh form; the later family's looks); each row that meets fmt, with fmt's text TOLD by the authors' own Lean function (tested against real Go, not proved from fmt's source: count such statements apart). THE CARD IS WHAT COUNTS. Prove the row's statement (the work); the ties are given (YtallmimhfmaapaaGreatDoorTie.lean); close each card by the builder's one call (the guide's Derived/Test/ToyasCard.lean, 'card_holds'). Laid BY PROGRAM, IN A SANDBOX (cutbox-door.mjs). By AI agents, Wed Nov 11 2026. No macro, syntax, notation, axiom, sorry.
-/
import Derived.Test.YtallmimhfmaapaaGreatDoorRows
import GoSem.ClaimSeven
namespace Go.Proofs.YtallmimhfmaapaaGreatDoor
namespace Rows

/-- THE TIED CARD OF 'laws.FnExactMultiplicityOf'. -/
def fnExactMultiplicityOfCard : Claim7 := { stood := { row := fnExactMultiplicityOfRow, standIns := [], harness := (true, "b30a261a2f5cfaa16728b2a055137f600f77c0b5c74167fb6ce06c56b01f3428"), looks := false }, kinds := [], alts := [], laidByText := true, laidKinds := [.data, .pinned], laidTests := true, laidLooks := .later }
def FnExactMultiplicityOfCardSaid : Prop := Claim7.holds Tryz.pinned (.plain (OpenSpec.ofChange fnExactMultiplicityOfSpec)) fnExactMultiplicityOfCard

/-- THE TIED CARD OF 'laws.FnExactDominantMultiplicities'. -/
def fnExactDominantMultiplicitiesCard : Claim7 := { stood := { row := fnExactDominantMultiplicitiesRow, standIns := [], harness := (true, "b30a261a2f5cfaa16728b2a055137f600f77c0b5c74167fb6ce06c56b01f3428"), looks := false }, kinds := [], alts := [], laidByText := true, laidKinds := [.data, .pinned], laidTests := true, laidLooks := .later }
def FnExactDominantMultiplicitiesCardSaid : Prop := Claim7.holds Tryz.pinned (.plain (OpenSpec.ofChange fnExactDominantMultiplicitiesSpec)) fnExactDominantMultiplicitiesCard

/-- THE TIED CARD OF 'laws.FnExactCharacterOf'. -/
def fnExactCharacterOfCard : Claim7 := { stood := { row := fnExactCharacterOfRow, standIns := [], harness := (true, "b30a261a2f5cfaa16728b2a055137f600f77c0b5c74167fb6ce06c56b01f3428"), looks := false }, kinds := [], alts := [], laidByText := true, laidKinds := [.data, .pinned], laidTests := true, laidLooks := .later }
def FnExactCharacterOfCardSaid : Prop := Claim7.holds Tryz.pinned (.plain (OpenSpec.ofChange fnExactCharacterOfSpec)) fnExactCharacterOfCard

/-- THE SECOND FORM's CARD OF 'laws.FnExactMultiplicityOf'. -/
def fnExactMultiplicityOfUptoCard : Claim7 := { stood := { row := fnExactMultiplicityOfUptoRow, standIns := [], harness := (true, "b30a261a2f5cfaa16728b2a055137f600f77c0b5c74167fb6ce06c56b01f3428"), looks := false }, kinds := [], alts := [], laidByText := true, laidKinds := [.data, .pinned], laidTests := true, laidLooks := .later }
def FnExactMultiplicityOfUptoCardSaid : Prop := Claim7.holds Tryz.pinned (.plain (OpenSpec.upto fnExactMultiplicityOfSpec)) fnExactMultiplicityOfUptoCard

/-- THE SECOND FORM's CARD OF 'laws.FnExactDominantMultiplicities'. -/
def fnExactDominantMultiplicitiesUptoCard : Claim7 := { stood := { row := fnExactDominantMultiplicitiesUptoRow, standIns := [], harness := (true, "b30a261a2f5cfaa16728b2a055137f600f77c0b5c74167fb6ce06c56b01f3428"), looks := false }, kinds := [], alts := [], laidByText := true, laidKinds := [.data, .pinned], laidTests := true, laidLooks := .later }
def FnExactDominantMultiplicitiesUptoCardSaid : Prop := Claim7.holds Tryz.pinned (.plain (OpenSpec.upto fnExactDominantMultiplicitiesSpec)) fnExactDominantMultiplicitiesUptoCard

/-- THE SECOND FORM's CARD OF 'laws.FnExactCharacterOf'. -/
def fnExactCharacterOfUptoCard : Claim7 := { stood := { row := fnExactCharacterOfUptoRow, standIns := [], harness := (true, "b30a261a2f5cfaa16728b2a055137f600f77c0b5c74167fb6ce06c56b01f3428"), looks := false }, kinds := [], alts := [], laidByText := true, laidKinds := [.data, .pinned], laidTests := true, laidLooks := .later }
def FnExactCharacterOfUptoCardSaid : Prop := Claim7.holds Tryz.pinned (.plain (OpenSpec.upto fnExactCharacterOfSpec)) fnExactCharacterOfUptoCard
end Rows
end Go.Proofs.YtallmimhfmaapaaGreatDoor
