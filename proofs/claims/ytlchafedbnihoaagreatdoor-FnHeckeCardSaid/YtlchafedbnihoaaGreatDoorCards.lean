/-
  DERIVED. GIVEN WITH THE SEED: THE CARDS: each row of YtlchafedbnihoaaGreatDoorRows.lean that lists a variable, with what it lists TIED to the program's text (the seventh form; the later family's looks); each row that meets fmt, with fmt's text TOLD by the authors' own Lean function (tested against real Go, not proved from fmt's source: count such statements apart). THE CARD IS WHAT COUNTS. Prove the row's statement (the work); the ties are given (YtlchafedbnihoaaGreatDoorTie.lean); close each card by the builder's one call (the guide's Derived/Test/ToyasCard.lean, 'card_holds'). Laid BY PROGRAM, IN A SANDBOX (cutbox-door.mjs). By AI agents, Wed Nov 11 2026. No macro, syntax, notation, axiom, sorry.
-/
import Derived.Test.YtlchafedbnihoaaGreatDoorRows
import GoSem.ClaimSeven
namespace Go.Proofs.YtlchafedbnihoaaGreatDoor
namespace Rows

/-- THE TIED CARD OF 'laws.FnHecke'. -/
def fnHeckeCard : Claim7 := { stood := { row := fnHeckeRow, standIns := [], harness := (true, "e07bec05c5bd3331e4b4ca99bfe404f40e93f2185cb6db62a9e94630ac94facb"), looks := false }, kinds := [], alts := [], laidByText := true, laidKinds := [.data, .data, .data], laidTests := true, laidLooks := .later }
def FnHeckeCardSaid : Prop := Claim7.holds Tryz.pinned (.plain (OpenSpec.ofChange fnHeckeSpec)) fnHeckeCard

/-- THE SECOND FORM's CARD OF 'laws.FnHecke'. -/
def fnHeckeUptoCard : Claim7 := { stood := { row := fnHeckeUptoRow, standIns := [], harness := (true, "e07bec05c5bd3331e4b4ca99bfe404f40e93f2185cb6db62a9e94630ac94facb"), looks := false }, kinds := [], alts := [], laidByText := true, laidKinds := [.data, .data, .data], laidTests := true, laidLooks := .later }
def FnHeckeUptoCardSaid : Prop := Claim7.holds Tryz.pinned (.plain (OpenSpec.upto fnHeckeSpec)) fnHeckeUptoCard
end Rows
end Go.Proofs.YtlchafedbnihoaaGreatDoor
