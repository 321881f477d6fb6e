/-
  DERIVED. GIVEN WITH THE SEED: THE CARDS: each row of YteglcjembimegaaDoorRows.lean that lists a variable, with what it lists TIED to the program's text (the seventh form; the later family's looks); each row that meets fmt, with fmt's text TOLD by the authors' own Lean function (tested against real Go, not proved from fmt's source: count such statements apart). THE CARD IS WHAT COUNTS. Prove the row's statement (the work); the ties are given (YteglcjembimegaaDoorTie.lean); close each card by the builder's one call (the guide's Derived/Test/ToyasCard.lean, 'card_holds'). Laid BY PROGRAM, IN A SANDBOX (cutbox-door.mjs). By AI agents, Wed Nov 11 2026. No macro, syntax, notation, axiom, sorry.
-/
import Derived.Test.YteglcjembimegaaDoorRows
import GoSem.ClaimSeven
namespace Go.Proofs.YteglcjembimegaaDoor
namespace Rows

/-- THE TIED CARD OF 'laws.FnExactFormatCharacter'. -/
def fnExactFormatCharacterCard : Claim7 := { stood := { row := fnExactFormatCharacterRow, standIns := [], harness := (true, "ca25cccf3987349cd01fd7062fd2a6fbaf00eb13cc531c5cc7dfcabe7a2dc7b9"), looks := false }, kinds := [], alts := [], laidByText := true, laidKinds := [.data, .data, .data], laidTests := true, laidLooks := .later }
def FnExactFormatCharacterCardSaid : Prop := Claim7.holds Tryd.pinned (.plain (OpenSpec.ofChange fnExactFormatCharacterSpec)) fnExactFormatCharacterCard

/-- THE TIED CARD OF 'laws.FnExactFormatHecke'. -/
def fnExactFormatHeckeCard : Claim7 := { stood := { row := fnExactFormatHeckeRow, standIns := [], harness := (true, "ca25cccf3987349cd01fd7062fd2a6fbaf00eb13cc531c5cc7dfcabe7a2dc7b9"), looks := false }, kinds := [], alts := [], laidByText := true, laidKinds := [.data, .data, .data], laidTests := true, laidLooks := .later }
def FnExactFormatHeckeCardSaid : Prop := Claim7.holds Tryd.pinned (.plain (OpenSpec.ofChange fnExactFormatHeckeSpec)) fnExactFormatHeckeCard

/-- THE SECOND FORM's CARD OF 'laws.FnExactFormatCharacter'. -/
def fnExactFormatCharacterUptoCard : Claim7 := { stood := { row := fnExactFormatCharacterUptoRow, standIns := [], harness := (true, "ca25cccf3987349cd01fd7062fd2a6fbaf00eb13cc531c5cc7dfcabe7a2dc7b9"), looks := false }, kinds := [], alts := [], laidByText := true, laidKinds := [.data, .data, .data], laidTests := true, laidLooks := .later }
def FnExactFormatCharacterUptoCardSaid : Prop := Claim7.holds Tryd.pinned (.plain (OpenSpec.upto fnExactFormatCharacterSpec)) fnExactFormatCharacterUptoCard

/-- THE SECOND FORM's CARD OF 'laws.FnExactFormatHecke'. -/
def fnExactFormatHeckeUptoCard : Claim7 := { stood := { row := fnExactFormatHeckeUptoRow, standIns := [], harness := (true, "ca25cccf3987349cd01fd7062fd2a6fbaf00eb13cc531c5cc7dfcabe7a2dc7b9"), looks := false }, kinds := [], alts := [], laidByText := true, laidKinds := [.data, .data, .data], laidTests := true, laidLooks := .later }
def FnExactFormatHeckeUptoCardSaid : Prop := Claim7.holds Tryd.pinned (.plain (OpenSpec.upto fnExactFormatHeckeSpec)) fnExactFormatHeckeUptoCard
end Rows
end Go.Proofs.YteglcjembimegaaDoor
