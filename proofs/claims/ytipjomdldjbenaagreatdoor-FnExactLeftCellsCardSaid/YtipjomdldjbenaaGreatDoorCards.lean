/-
  DERIVED. GIVEN WITH THE SEED: THE CARDS: each row of YtipjomdldjbenaaGreatDoorRows.lean that lists a variable, with what it lists TIED to the program's text (the seventh form; the later family's looks); each row that meets fmt, with fmt's text TOLD by the authors' own Lean function (tested against real Go, not proved from fmt's source: count such statements apart). THE CARD IS WHAT COUNTS. Prove the row's statement (the work); the ties are given (YtipjomdldjbenaaGreatDoorTie.lean); close each card by the builder's one call (the guide's Derived/Test/ToyasCard.lean, 'card_holds'). Laid BY PROGRAM, IN A SANDBOX (cutbox-door.mjs). By AI agents, Wed Nov 11 2026. No macro, syntax, notation, axiom, sorry.
-/
import Derived.Test.YtipjomdldjbenaaGreatDoorRows
import GoSem.ClaimSeven
namespace Go.Proofs.YtipjomdldjbenaaGreatDoor
namespace Rows

/-- THE TIED CARD OF 'laws.FnExactCountInvolutions'. -/
def fnExactCountInvolutionsCard : Claim7 := { stood := { row := fnExactCountInvolutionsRow, standIns := [], harness := (true, "9bb4c81c29d36c0bf0bb9e634101b01fa98c6050efb36adde2500f8bd0092f05"), looks := false }, kinds := [], alts := [], laidByText := true, laidKinds := [.data, .pinned], laidTests := true, laidLooks := .later }
def FnExactCountInvolutionsCardSaid : Prop := Claim7.holds Tryz.pinned (.plain (OpenSpec.ofChange fnExactCountInvolutionsSpec)) fnExactCountInvolutionsCard

/-- THE TIED CARD OF 'laws.FnExactIsRationallySmooth'. -/
def fnExactIsRationallySmoothCard : Claim7 := { stood := { row := fnExactIsRationallySmoothRow, standIns := [], harness := (true, "9bb4c81c29d36c0bf0bb9e634101b01fa98c6050efb36adde2500f8bd0092f05"), looks := false }, kinds := [], alts := [], laidByText := true, laidKinds := [.data, .pinned], laidTests := true, laidLooks := .later }
def FnExactIsRationallySmoothCardSaid : Prop := Claim7.holds Tryz.pinned (.plain (OpenSpec.ofChange fnExactIsRationallySmoothSpec)) fnExactIsRationallySmoothCard

/-- THE TIED CARD OF 'laws.FnExactMuOf'. -/
def fnExactMuOfCard : Claim7 := { stood := { row := fnExactMuOfRow, standIns := [], harness := (true, "9bb4c81c29d36c0bf0bb9e634101b01fa98c6050efb36adde2500f8bd0092f05"), looks := false }, kinds := [], alts := [], laidByText := true, laidKinds := [.data, .pinned], laidTests := true, laidLooks := .later }
def FnExactMuOfCardSaid : Prop := Claim7.holds Tryz.pinned (.plain (OpenSpec.ofChange fnExactMuOfSpec)) fnExactMuOfCard

/-- THE TIED CARD OF 'laws.FnExactKLPolynomial'. -/
def fnExactKLPolynomialCard : Claim7 := { stood := { row := fnExactKLPolynomialRow, standIns := [], harness := (true, "9bb4c81c29d36c0bf0bb9e634101b01fa98c6050efb36adde2500f8bd0092f05"), looks := false }, kinds := [], alts := [], laidByText := true, laidKinds := [.data, .pinned], laidTests := true, laidLooks := .later }
def FnExactKLPolynomialCardSaid : Prop := Claim7.holds Tryz.pinned (.plain (OpenSpec.ofChange fnExactKLPolynomialSpec)) fnExactKLPolynomialCard

/-- THE TIED CARD OF 'laws.FnExactKLRow'. -/
def fnExactKLRowCard : Claim7 := { stood := { row := fnExactKLRowRow, standIns := [], harness := (true, "9bb4c81c29d36c0bf0bb9e634101b01fa98c6050efb36adde2500f8bd0092f05"), looks := false }, kinds := [], alts := [], laidByText := true, laidKinds := [.data, .pinned], laidTests := true, laidLooks := .later }
def FnExactKLRowCardSaid : Prop := Claim7.holds Tryz.pinned (.plain (OpenSpec.ofChange fnExactKLRowSpec)) fnExactKLRowCard

/-- THE TIED CARD OF 'laws.FnExactBettiOf'. -/
def fnExactBettiOfCard : Claim7 := { stood := { row := fnExactBettiOfRow, standIns := [], harness := (true, "9bb4c81c29d36c0bf0bb9e634101b01fa98c6050efb36adde2500f8bd0092f05"), looks := false }, kinds := [], alts := [], laidByText := true, laidKinds := [.data, .pinned], laidTests := true, laidLooks := .later }
def FnExactBettiOfCardSaid : Prop := Claim7.holds Tryz.pinned (.plain (OpenSpec.ofChange fnExactBettiOfSpec)) fnExactBettiOfCard

/-- THE TIED CARD OF 'laws.FnExactWGraph'. -/
def fnExactWGraphCard : Claim7 := { stood := { row := fnExactWGraphRow, standIns := [], harness := (true, "9bb4c81c29d36c0bf0bb9e634101b01fa98c6050efb36adde2500f8bd0092f05"), looks := false }, kinds := [], alts := [], laidByText := true, laidKinds := [.data, .pinned], laidTests := true, laidLooks := .later }
def FnExactWGraphCardSaid : Prop := Claim7.holds Tryz.pinned (.plain (OpenSpec.ofChange fnExactWGraphSpec)) fnExactWGraphCard

/-- THE TIED CARD OF 'laws.FnExactCanonicalBasis'. -/
def fnExactCanonicalBasisCard : Claim7 := { stood := { row := fnExactCanonicalBasisRow, standIns := [], harness := (true, "9bb4c81c29d36c0bf0bb9e634101b01fa98c6050efb36adde2500f8bd0092f05"), looks := false }, kinds := [], alts := [], laidByText := true, laidKinds := [.data, .pinned], laidTests := true, laidLooks := .later }
def FnExactCanonicalBasisCardSaid : Prop := Claim7.holds Tryz.pinned (.plain (OpenSpec.ofChange fnExactCanonicalBasisSpec)) fnExactCanonicalBasisCard

/-- THE TIED CARD OF 'laws.FnExactLeftCells'. -/
def fnExactLeftCellsCard : Claim7 := { stood := { row := fnExactLeftCellsRow, standIns := [], harness := (true, "9bb4c81c29d36c0bf0bb9e634101b01fa98c6050efb36adde2500f8bd0092f05"), looks := false }, kinds := [], alts := [], laidByText := true, laidKinds := [.data, .pinned], laidTests := true, laidLooks := .later }
def FnExactLeftCellsCardSaid : Prop := Claim7.holds Tryz.pinned (.plain (OpenSpec.ofChange fnExactLeftCellsSpec)) fnExactLeftCellsCard

/-- THE TIED CARD OF 'laws.FnExactRightCells'. -/
def fnExactRightCellsCard : Claim7 := { stood := { row := fnExactRightCellsRow, standIns := [], harness := (true, "9bb4c81c29d36c0bf0bb9e634101b01fa98c6050efb36adde2500f8bd0092f05"), looks := false }, kinds := [], alts := [], laidByText := true, laidKinds := [.data, .pinned], laidTests := true, laidLooks := .later }
def FnExactRightCellsCardSaid : Prop := Claim7.holds Tryz.pinned (.plain (OpenSpec.ofChange fnExactRightCellsSpec)) fnExactRightCellsCard

/-- THE SECOND FORM's CARD OF 'laws.FnExactCountInvolutions'. -/
def fnExactCountInvolutionsUptoCard : Claim7 := { stood := { row := fnExactCountInvolutionsUptoRow, standIns := [], harness := (true, "9bb4c81c29d36c0bf0bb9e634101b01fa98c6050efb36adde2500f8bd0092f05"), looks := false }, kinds := [], alts := [], laidByText := true, laidKinds := [.data, .pinned], laidTests := true, laidLooks := .later }
def FnExactCountInvolutionsUptoCardSaid : Prop := Claim7.holds Tryz.pinned (.plain (OpenSpec.upto fnExactCountInvolutionsSpec)) fnExactCountInvolutionsUptoCard

/-- THE SECOND FORM's CARD OF 'laws.FnExactIsRationallySmooth'. -/
def fnExactIsRationallySmoothUptoCard : Claim7 := { stood := { row := fnExactIsRationallySmoothUptoRow, standIns := [], harness := (true, "9bb4c81c29d36c0bf0bb9e634101b01fa98c6050efb36adde2500f8bd0092f05"), looks := false }, kinds := [], alts := [], laidByText := true, laidKinds := [.data, .pinned], laidTests := true, laidLooks := .later }
def FnExactIsRationallySmoothUptoCardSaid : Prop := Claim7.holds Tryz.pinned (.plain (OpenSpec.upto fnExactIsRationallySmoothSpec)) fnExactIsRationallySmoothUptoCard

/-- THE SECOND FORM's CARD OF 'laws.FnExactMuOf'. -/
def fnExactMuOfUptoCard : Claim7 := { stood := { row := fnExactMuOfUptoRow, standIns := [], harness := (true, "9bb4c81c29d36c0bf0bb9e634101b01fa98c6050efb36adde2500f8bd0092f05"), looks := false }, kinds := [], alts := [], laidByText := true, laidKinds := [.data, .pinned], laidTests := true, laidLooks := .later }
def FnExactMuOfUptoCardSaid : Prop := Claim7.holds Tryz.pinned (.plain (OpenSpec.upto fnExactMuOfSpec)) fnExactMuOfUptoCard

/-- THE SECOND FORM's CARD OF 'laws.FnExactKLPolynomial'. -/
def fnExactKLPolynomialUptoCard : Claim7 := { stood := { row := fnExactKLPolynomialUptoRow, standIns := [], harness := (true, "9bb4c81c29d36c0bf0bb9e634101b01fa98c6050efb36adde2500f8bd0092f05"), looks := false }, kinds := [], alts := [], laidByText := true, laidKinds := [.data, .pinned], laidTests := true, laidLooks := .later }
def FnExactKLPolynomialUptoCardSaid : Prop := Claim7.holds Tryz.pinned (.plain (OpenSpec.upto fnExactKLPolynomialSpec)) fnExactKLPolynomialUptoCard

/-- THE SECOND FORM's CARD OF 'laws.FnExactKLRow'. -/
def fnExactKLRowUptoCard : Claim7 := { stood := { row := fnExactKLRowUptoRow, standIns := [], harness := (true, "9bb4c81c29d36c0bf0bb9e634101b01fa98c6050efb36adde2500f8bd0092f05"), looks := false }, kinds := [], alts := [], laidByText := true, laidKinds := [.data, .pinned], laidTests := true, laidLooks := .later }
def FnExactKLRowUptoCardSaid : Prop := Claim7.holds Tryz.pinned (.plain (OpenSpec.upto fnExactKLRowSpec)) fnExactKLRowUptoCard

/-- THE SECOND FORM's CARD OF 'laws.FnExactBettiOf'. -/
def fnExactBettiOfUptoCard : Claim7 := { stood := { row := fnExactBettiOfUptoRow, standIns := [], harness := (true, "9bb4c81c29d36c0bf0bb9e634101b01fa98c6050efb36adde2500f8bd0092f05"), looks := false }, kinds := [], alts := [], laidByText := true, laidKinds := [.data, .pinned], laidTests := true, laidLooks := .later }
def FnExactBettiOfUptoCardSaid : Prop := Claim7.holds Tryz.pinned (.plain (OpenSpec.upto fnExactBettiOfSpec)) fnExactBettiOfUptoCard

/-- THE SECOND FORM's CARD OF 'laws.FnExactWGraph'. -/
def fnExactWGraphUptoCard : Claim7 := { stood := { row := fnExactWGraphUptoRow, standIns := [], harness := (true, "9bb4c81c29d36c0bf0bb9e634101b01fa98c6050efb36adde2500f8bd0092f05"), looks := false }, kinds := [], alts := [], laidByText := true, laidKinds := [.data, .pinned], laidTests := true, laidLooks := .later }
def FnExactWGraphUptoCardSaid : Prop := Claim7.holds Tryz.pinned (.plain (OpenSpec.upto fnExactWGraphSpec)) fnExactWGraphUptoCard

/-- THE SECOND FORM's CARD OF 'laws.FnExactCanonicalBasis'. -/
def fnExactCanonicalBasisUptoCard : Claim7 := { stood := { row := fnExactCanonicalBasisUptoRow, standIns := [], harness := (true, "9bb4c81c29d36c0bf0bb9e634101b01fa98c6050efb36adde2500f8bd0092f05"), looks := false }, kinds := [], alts := [], laidByText := true, laidKinds := [.data, .pinned], laidTests := true, laidLooks := .later }
def FnExactCanonicalBasisUptoCardSaid : Prop := Claim7.holds Tryz.pinned (.plain (OpenSpec.upto fnExactCanonicalBasisSpec)) fnExactCanonicalBasisUptoCard

/-- THE SECOND FORM's CARD OF 'laws.FnExactLeftCells'. -/
def fnExactLeftCellsUptoCard : Claim7 := { stood := { row := fnExactLeftCellsUptoRow, standIns := [], harness := (true, "9bb4c81c29d36c0bf0bb9e634101b01fa98c6050efb36adde2500f8bd0092f05"), looks := false }, kinds := [], alts := [], laidByText := true, laidKinds := [.data, .pinned], laidTests := true, laidLooks := .later }
def FnExactLeftCellsUptoCardSaid : Prop := Claim7.holds Tryz.pinned (.plain (OpenSpec.upto fnExactLeftCellsSpec)) fnExactLeftCellsUptoCard

/-- THE SECOND FORM's CARD OF 'laws.FnExactRightCells'. -/
def fnExactRightCellsUptoCard : Claim7 := { stood := { row := fnExactRightCellsUptoRow, standIns := [], harness := (true, "9bb4c81c29d36c0bf0bb9e634101b01fa98c6050efb36adde2500f8bd0092f05"), looks := false }, kinds := [], alts := [], laidByText := true, laidKinds := [.data, .pinned], laidTests := true, laidLooks := .later }
def FnExactRightCellsUptoCardSaid : Prop := Claim7.holds Tryz.pinned (.plain (OpenSpec.upto fnExactRightCellsSpec)) fnExactRightCellsUptoCard
end Rows
end Go.Proofs.YtipjomdldjbenaaGreatDoor
