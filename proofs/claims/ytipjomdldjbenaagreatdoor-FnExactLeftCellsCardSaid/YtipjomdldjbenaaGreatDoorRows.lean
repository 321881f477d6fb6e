/-
  NARROWER THAN 'FOR EVERY INPUT', by the rows' own cells (each row's printed sentence says how): FnExactCountInvolutions: laid · FnExactIsRationallySmooth: laid · FnExactMuOf: laid · FnExactKLPolynomial: laid · FnExactKLRow: laid · FnExactBettiOf: laid · FnExactWGraph: laid · FnExactCanonicalBasis: laid · FnExactLeftCells: laid · FnExactRightCells: laid.
  DERIVED. THE GIVEN ROWS OF THIS SEAT. 10 by the template 'for every input the law returns true; each argument reads behind the call as it read before'; 0 by the template 'total and deterministic' (their statements: YtipjomdldjbenaaGreatDoorTotals.lean).
  GIVEN WITH THE SEED: the statements are not yours to turn. If you find one false, say at which input.
  Laid BY PROGRAM, IN A SANDBOX (cutbox-rows.mjs): the forced cells as the released guide's own fill.sh prints them over the translation ffdfdc7c79c73037… (all of the seat's roots in one cut). By AI agents, Wed Nov 11 2026. No macro, syntax, notation, axiom, sorry.
-/
import Derived.Test.YtipjomdldjbenaaGreatDoorChecked
import GoSem.PinnedTables
import GoSem.Claim
import GoSem.ClaimJoined
import GoSem.ClaimMapViews
import Derived.JoinedTies
import Derived.KernelRfl
namespace Go.Proofs.YtipjomdldjbenaaGreatDoor
/- THE CELL 'sum', in the pinned program and in every row, IS THE sha256 OF THE DUMP (.gsa) THAT YtipjomdldjbenaaGreatDoorProg.lean LOADS. Nothing in Lean hashes anything: it is a label: what it is worth is what the hold of that sum in a sandbox is worth. -/
noncomputable def Tryz.pinned : Pinned := { name := "ytipjomdldjbenaagreatdoor", sum := "ffdfdc7c79c7303792e44dc82fd945e8abc20ae22a0ea05ed6531f45cb6ccda4", checked := Tryz.checked }
namespace Rows
def none {H : Type} : Left H := { results := [], args := [] }

/- WHAT THE LISTED PACKAGE-LEVEL VARIABLES READ AS WHEN THE CALL BEGINS. Each datum BY PROGRAM (the guide's laid-datum.mjs) off the statement by which the dump's own 'gosem.cut.vars' lays the variable. In a bare row this is a premise. The card (YtipjomdldjbenaaGreatDoorCards.lean) ties it to the program's text. -/
def laid_unicode_utf8_acceptRanges {H : Type} : DataW H := .agg [.agg [.lit (.int .u8 128), .lit (.int .u8 191)], .agg [.lit (.int .u8 160), .lit (.int .u8 191)], .agg [.lit (.int .u8 128), .lit (.int .u8 159)], .agg [.lit (.int .u8 144), .lit (.int .u8 191)], .agg [.lit (.int .u8 128), .lit (.int .u8 143)], .agg [.lit (.int .u8 0), .lit (.int .u8 0)], .agg [.lit (.int .u8 0), .lit (.int .u8 0)], .agg [.lit (.int .u8 0), .lit (.int .u8 0)], .agg [.lit (.int .u8 0), .lit (.int .u8 0)], .agg [.lit (.int .u8 0), .lit (.int .u8 0)], .agg [.lit (.int .u8 0), .lit (.int .u8 0)], .agg [.lit (.int .u8 0), .lit (.int .u8 0)], .agg [.lit (.int .u8 0), .lit (.int .u8 0)], .agg [.lit (.int .u8 0), .lit (.int .u8 0)], .agg [.lit (.int .u8 0), .lit (.int .u8 0)], .agg [.lit (.int .u8 0), .lit (.int .u8 0)]]
/-- One of Go's own tables, pinned by name: the form's constant. -/
def laid_unicode_utf8_first : DataW Unit := Go.Pinned.utf8First

/-- 'laws.FnExactCountInvolutions': WHATEVER THE INPUT: true; the input reads as it did. -/
def fnExactCountInvolutionsSpec : ChangeSpec := { name := "fnExactCountInvolutions", fn := fun _ => fun
  | [d] => { results := [.lit (.bool true)], args := [d] }
  | _ => none }
def fnExactCountInvolutionsRow : OpenClaim := { program := "ytipjomdldjbenaagreatdoor", sum := "ffdfdc7c79c7303792e44dc82fd945e8abc20ae22a0ea05ed6531f45cb6ccda4", func := "loop.example/g02076/laws.FnExactCountInvolutions", spec := "fnExactCountInvolutions", inPlace := ["internal/bytealg.CountString", "internal/bytealg.IndexByteString", "internal/bytealg.IndexString", "internal/abi.NoEscape", "internal/bytealg.MakeNoZero"], unfollowed := true, recurses := true, named := ["unicode/utf8.first", "unicode/utf8.acceptRanges", "internal/bytealg.MaxLen"], plainKeys := false, apart := false, laid := [("unicode/utf8.acceptRanges", laid_unicode_utf8_acceptRanges), ("unicode/utf8.first", laid_unicode_utf8_first)] }
def FnExactCountInvolutionsSaid : Prop := fnExactCountInvolutionsRow.holds Tryz.pinned (OpenSpec.ofChange fnExactCountInvolutionsSpec)

/-- ITS FALSE NEIGHBOUR: 'it returns false'. Refute it at one input. -/
def fnExactCountInvolutionsWrong : ChangeSpec := { name := "fnExactCountInvolutions", fn := fun _ => fun
  | [d] => { results := [.lit (.bool false)], args := [d] }
  | _ => none }
def FnExactCountInvolutionsWrongFalsely : Prop := fnExactCountInvolutionsRow.holds Tryz.pinned (OpenSpec.ofChange fnExactCountInvolutionsWrong)

/-- 'laws.FnExactIsRationallySmooth': WHATEVER THE INPUT: true; the input reads as it did. -/
def fnExactIsRationallySmoothSpec : ChangeSpec := { name := "fnExactIsRationallySmooth", fn := fun _ => fun
  | [d1, d2] => { results := [.lit (.bool true)], args := [d1, d2] }
  | _ => none }
def fnExactIsRationallySmoothRow : OpenClaim := { program := "ytipjomdldjbenaagreatdoor", sum := "ffdfdc7c79c7303792e44dc82fd945e8abc20ae22a0ea05ed6531f45cb6ccda4", func := "loop.example/g02076/laws.FnExactIsRationallySmooth", spec := "fnExactIsRationallySmooth", inPlace := ["internal/bytealg.CountString", "internal/bytealg.IndexByteString", "internal/bytealg.IndexString", "internal/abi.NoEscape", "internal/bytealg.MakeNoZero"], unfollowed := true, recurses := true, named := ["unicode/utf8.first", "unicode/utf8.acceptRanges", "internal/bytealg.MaxLen"], plainKeys := false, apart := false, laid := [("unicode/utf8.acceptRanges", laid_unicode_utf8_acceptRanges), ("unicode/utf8.first", laid_unicode_utf8_first)] }
def FnExactIsRationallySmoothSaid : Prop := fnExactIsRationallySmoothRow.holds Tryz.pinned (OpenSpec.ofChange fnExactIsRationallySmoothSpec)

/-- ITS FALSE NEIGHBOUR: 'it returns false'. Refute it at one input. -/
def fnExactIsRationallySmoothWrong : ChangeSpec := { name := "fnExactIsRationallySmooth", fn := fun _ => fun
  | [d1, d2] => { results := [.lit (.bool false)], args := [d1, d2] }
  | _ => none }
def FnExactIsRationallySmoothWrongFalsely : Prop := fnExactIsRationallySmoothRow.holds Tryz.pinned (OpenSpec.ofChange fnExactIsRationallySmoothWrong)

/-- 'laws.FnExactMuOf': WHATEVER THE INPUT: true; the input reads as it did. -/
def fnExactMuOfSpec : ChangeSpec := { name := "fnExactMuOf", fn := fun _ => fun
  | [d1, d2, d3] => { results := [.lit (.bool true)], args := [d1, d2, d3] }
  | _ => none }
def fnExactMuOfRow : OpenClaim := { program := "ytipjomdldjbenaagreatdoor", sum := "ffdfdc7c79c7303792e44dc82fd945e8abc20ae22a0ea05ed6531f45cb6ccda4", func := "loop.example/g02076/laws.FnExactMuOf", spec := "fnExactMuOf", inPlace := ["internal/bytealg.CountString", "internal/bytealg.IndexByteString", "internal/bytealg.IndexString", "internal/abi.NoEscape", "internal/bytealg.MakeNoZero"], unfollowed := true, recurses := true, named := ["unicode/utf8.first", "unicode/utf8.acceptRanges", "internal/bytealg.MaxLen"], plainKeys := false, apart := false, laid := [("unicode/utf8.acceptRanges", laid_unicode_utf8_acceptRanges), ("unicode/utf8.first", laid_unicode_utf8_first)] }
def FnExactMuOfSaid : Prop := fnExactMuOfRow.holds Tryz.pinned (OpenSpec.ofChange fnExactMuOfSpec)

/-- ITS FALSE NEIGHBOUR: 'it returns false'. Refute it at one input. -/
def fnExactMuOfWrong : ChangeSpec := { name := "fnExactMuOf", fn := fun _ => fun
  | [d1, d2, d3] => { results := [.lit (.bool false)], args := [d1, d2, d3] }
  | _ => none }
def FnExactMuOfWrongFalsely : Prop := fnExactMuOfRow.holds Tryz.pinned (OpenSpec.ofChange fnExactMuOfWrong)

/-- 'laws.FnExactKLPolynomial': WHATEVER THE INPUT: true; the input reads as it did. -/
def fnExactKLPolynomialSpec : ChangeSpec := { name := "fnExactKLPolynomial", fn := fun _ => fun
  | [d1, d2, d3] => { results := [.lit (.bool true)], args := [d1, d2, d3] }
  | _ => none }
def fnExactKLPolynomialRow : OpenClaim := { program := "ytipjomdldjbenaagreatdoor", sum := "ffdfdc7c79c7303792e44dc82fd945e8abc20ae22a0ea05ed6531f45cb6ccda4", func := "loop.example/g02076/laws.FnExactKLPolynomial", spec := "fnExactKLPolynomial", inPlace := ["internal/bytealg.CountString", "internal/bytealg.IndexByteString", "internal/bytealg.IndexString", "internal/abi.NoEscape", "internal/bytealg.MakeNoZero"], unfollowed := true, recurses := true, named := ["unicode/utf8.first", "unicode/utf8.acceptRanges", "internal/bytealg.MaxLen"], plainKeys := false, apart := false, laid := [("unicode/utf8.acceptRanges", laid_unicode_utf8_acceptRanges), ("unicode/utf8.first", laid_unicode_utf8_first)] }
def FnExactKLPolynomialSaid : Prop := fnExactKLPolynomialRow.holds Tryz.pinned (OpenSpec.ofChange fnExactKLPolynomialSpec)

/-- ITS FALSE NEIGHBOUR: 'it returns false'. Refute it at one input. -/
def fnExactKLPolynomialWrong : ChangeSpec := { name := "fnExactKLPolynomial", fn := fun _ => fun
  | [d1, d2, d3] => { results := [.lit (.bool false)], args := [d1, d2, d3] }
  | _ => none }
def FnExactKLPolynomialWrongFalsely : Prop := fnExactKLPolynomialRow.holds Tryz.pinned (OpenSpec.ofChange fnExactKLPolynomialWrong)

/-- 'laws.FnExactKLRow': WHATEVER THE INPUT: true; the input reads as it did. -/
def fnExactKLRowSpec : ChangeSpec := { name := "fnExactKLRow", fn := fun _ => fun
  | [d1, d2] => { results := [.lit (.bool true)], args := [d1, d2] }
  | _ => none }
def fnExactKLRowRow : OpenClaim := { program := "ytipjomdldjbenaagreatdoor", sum := "ffdfdc7c79c7303792e44dc82fd945e8abc20ae22a0ea05ed6531f45cb6ccda4", func := "loop.example/g02076/laws.FnExactKLRow", spec := "fnExactKLRow", inPlace := ["internal/bytealg.CountString", "internal/bytealg.IndexByteString", "internal/bytealg.IndexString", "internal/abi.NoEscape", "internal/bytealg.MakeNoZero"], unfollowed := true, recurses := true, named := ["unicode/utf8.first", "unicode/utf8.acceptRanges", "internal/bytealg.MaxLen"], plainKeys := false, apart := false, laid := [("unicode/utf8.acceptRanges", laid_unicode_utf8_acceptRanges), ("unicode/utf8.first", laid_unicode_utf8_first)] }
def FnExactKLRowSaid : Prop := fnExactKLRowRow.holds Tryz.pinned (OpenSpec.ofChange fnExactKLRowSpec)

/-- ITS FALSE NEIGHBOUR: 'it returns false'. Refute it at one input. -/
def fnExactKLRowWrong : ChangeSpec := { name := "fnExactKLRow", fn := fun _ => fun
  | [d1, d2] => { results := [.lit (.bool false)], args := [d1, d2] }
  | _ => none }
def FnExactKLRowWrongFalsely : Prop := fnExactKLRowRow.holds Tryz.pinned (OpenSpec.ofChange fnExactKLRowWrong)

/-- 'laws.FnExactBettiOf': WHATEVER THE INPUT: true; the input reads as it did. -/
def fnExactBettiOfSpec : ChangeSpec := { name := "fnExactBettiOf", fn := fun _ => fun
  | [d1, d2] => { results := [.lit (.bool true)], args := [d1, d2] }
  | _ => none }
def fnExactBettiOfRow : OpenClaim := { program := "ytipjomdldjbenaagreatdoor", sum := "ffdfdc7c79c7303792e44dc82fd945e8abc20ae22a0ea05ed6531f45cb6ccda4", func := "loop.example/g02076/laws.FnExactBettiOf", spec := "fnExactBettiOf", inPlace := ["internal/bytealg.CountString", "internal/bytealg.IndexByteString", "internal/bytealg.IndexString", "internal/abi.NoEscape", "internal/bytealg.MakeNoZero"], unfollowed := true, recurses := true, named := ["unicode/utf8.first", "unicode/utf8.acceptRanges", "internal/bytealg.MaxLen"], plainKeys := false, apart := false, laid := [("unicode/utf8.acceptRanges", laid_unicode_utf8_acceptRanges), ("unicode/utf8.first", laid_unicode_utf8_first)] }
def FnExactBettiOfSaid : Prop := fnExactBettiOfRow.holds Tryz.pinned (OpenSpec.ofChange fnExactBettiOfSpec)

/-- ITS FALSE NEIGHBOUR: 'it returns false'. Refute it at one input. -/
def fnExactBettiOfWrong : ChangeSpec := { name := "fnExactBettiOf", fn := fun _ => fun
  | [d1, d2] => { results := [.lit (.bool false)], args := [d1, d2] }
  | _ => none }
def FnExactBettiOfWrongFalsely : Prop := fnExactBettiOfRow.holds Tryz.pinned (OpenSpec.ofChange fnExactBettiOfWrong)

/-- 'laws.FnExactWGraph': WHATEVER THE INPUT: true; the input reads as it did. -/
def fnExactWGraphSpec : ChangeSpec := { name := "fnExactWGraph", fn := fun _ => fun
  | [d] => { results := [.lit (.bool true)], args := [d] }
  | _ => none }
def fnExactWGraphRow : OpenClaim := { program := "ytipjomdldjbenaagreatdoor", sum := "ffdfdc7c79c7303792e44dc82fd945e8abc20ae22a0ea05ed6531f45cb6ccda4", func := "loop.example/g02076/laws.FnExactWGraph", spec := "fnExactWGraph", inPlace := ["internal/bytealg.CountString", "internal/bytealg.IndexByteString", "internal/bytealg.IndexString", "internal/abi.NoEscape", "internal/bytealg.MakeNoZero"], unfollowed := true, recurses := true, named := ["unicode/utf8.first", "unicode/utf8.acceptRanges", "internal/bytealg.MaxLen"], plainKeys := false, apart := false, laid := [("unicode/utf8.acceptRanges", laid_unicode_utf8_acceptRanges), ("unicode/utf8.first", laid_unicode_utf8_first)] }
def FnExactWGraphSaid : Prop := fnExactWGraphRow.holds Tryz.pinned (OpenSpec.ofChange fnExactWGraphSpec)

/-- ITS FALSE NEIGHBOUR: 'it returns false'. Refute it at one input. -/
def fnExactWGraphWrong : ChangeSpec := { name := "fnExactWGraph", fn := fun _ => fun
  | [d] => { results := [.lit (.bool false)], args := [d] }
  | _ => none }
def FnExactWGraphWrongFalsely : Prop := fnExactWGraphRow.holds Tryz.pinned (OpenSpec.ofChange fnExactWGraphWrong)

/-- 'laws.FnExactCanonicalBasis': WHATEVER THE INPUT: true; the input reads as it did. -/
def fnExactCanonicalBasisSpec : ChangeSpec := { name := "fnExactCanonicalBasis", fn := fun _ => fun
  | [d1, d2] => { results := [.lit (.bool true)], args := [d1, d2] }
  | _ => none }
def fnExactCanonicalBasisRow : OpenClaim := { program := "ytipjomdldjbenaagreatdoor", sum := "ffdfdc7c79c7303792e44dc82fd945e8abc20ae22a0ea05ed6531f45cb6ccda4", func := "loop.example/g02076/laws.FnExactCanonicalBasis", spec := "fnExactCanonicalBasis", inPlace := ["internal/bytealg.CountString", "internal/bytealg.IndexByteString", "internal/bytealg.IndexString", "internal/abi.NoEscape", "internal/bytealg.MakeNoZero"], unfollowed := true, recurses := true, named := ["unicode/utf8.first", "unicode/utf8.acceptRanges", "internal/bytealg.MaxLen"], plainKeys := false, apart := false, laid := [("unicode/utf8.acceptRanges", laid_unicode_utf8_acceptRanges), ("unicode/utf8.first", laid_unicode_utf8_first)] }
def FnExactCanonicalBasisSaid : Prop := fnExactCanonicalBasisRow.holds Tryz.pinned (OpenSpec.ofChange fnExactCanonicalBasisSpec)

/-- ITS FALSE NEIGHBOUR: 'it returns false'. Refute it at one input. -/
def fnExactCanonicalBasisWrong : ChangeSpec := { name := "fnExactCanonicalBasis", fn := fun _ => fun
  | [d1, d2] => { results := [.lit (.bool false)], args := [d1, d2] }
  | _ => none }
def FnExactCanonicalBasisWrongFalsely : Prop := fnExactCanonicalBasisRow.holds Tryz.pinned (OpenSpec.ofChange fnExactCanonicalBasisWrong)

/-- 'laws.FnExactLeftCells': WHATEVER THE INPUT: true; the input reads as it did. -/
def fnExactLeftCellsSpec : ChangeSpec := { name := "fnExactLeftCells", fn := fun _ => fun
  | [d] => { results := [.lit (.bool true)], args := [d] }
  | _ => none }
def fnExactLeftCellsRow : OpenClaim := { program := "ytipjomdldjbenaagreatdoor", sum := "ffdfdc7c79c7303792e44dc82fd945e8abc20ae22a0ea05ed6531f45cb6ccda4", func := "loop.example/g02076/laws.FnExactLeftCells", spec := "fnExactLeftCells", inPlace := ["internal/bytealg.CountString", "internal/bytealg.IndexByteString", "internal/bytealg.IndexString", "internal/abi.NoEscape", "internal/bytealg.MakeNoZero"], unfollowed := true, recurses := true, named := ["unicode/utf8.first", "unicode/utf8.acceptRanges", "internal/bytealg.MaxLen"], plainKeys := false, apart := false, laid := [("unicode/utf8.acceptRanges", laid_unicode_utf8_acceptRanges), ("unicode/utf8.first", laid_unicode_utf8_first)] }
def FnExactLeftCellsSaid : Prop := fnExactLeftCellsRow.holds Tryz.pinned (OpenSpec.ofChange fnExactLeftCellsSpec)

/-- ITS FALSE NEIGHBOUR: 'it returns false'. Refute it at one input. -/
def fnExactLeftCellsWrong : ChangeSpec := { name := "fnExactLeftCells", fn := fun _ => fun
  | [d] => { results := [.lit (.bool false)], args := [d] }
  | _ => none }
def FnExactLeftCellsWrongFalsely : Prop := fnExactLeftCellsRow.holds Tryz.pinned (OpenSpec.ofChange fnExactLeftCellsWrong)

/-- 'laws.FnExactRightCells': WHATEVER THE INPUT: true; the input reads as it did. -/
def fnExactRightCellsSpec : ChangeSpec := { name := "fnExactRightCells", fn := fun _ => fun
  | [d] => { results := [.lit (.bool true)], args := [d] }
  | _ => none }
def fnExactRightCellsRow : OpenClaim := { program := "ytipjomdldjbenaagreatdoor", sum := "ffdfdc7c79c7303792e44dc82fd945e8abc20ae22a0ea05ed6531f45cb6ccda4", func := "loop.example/g02076/laws.FnExactRightCells", spec := "fnExactRightCells", inPlace := ["internal/bytealg.CountString", "internal/bytealg.IndexByteString", "internal/bytealg.IndexString", "internal/abi.NoEscape", "internal/bytealg.MakeNoZero"], unfollowed := true, recurses := true, named := ["unicode/utf8.first", "unicode/utf8.acceptRanges", "internal/bytealg.MaxLen"], plainKeys := false, apart := false, laid := [("unicode/utf8.acceptRanges", laid_unicode_utf8_acceptRanges), ("unicode/utf8.first", laid_unicode_utf8_first)] }
def FnExactRightCellsSaid : Prop := fnExactRightCellsRow.holds Tryz.pinned (OpenSpec.ofChange fnExactRightCellsSpec)

/-- ITS FALSE NEIGHBOUR: 'it returns false'. Refute it at one input. -/
def fnExactRightCellsWrong : ChangeSpec := { name := "fnExactRightCells", fn := fun _ => fun
  | [d] => { results := [.lit (.bool false)], args := [d] }
  | _ => none }
def FnExactRightCellsWrongFalsely : Prop := fnExactRightCellsRow.holds Tryz.pinned (OpenSpec.ofChange fnExactRightCellsWrong)

/- THE SECOND FORM. 'bulk': how many values and letters a reading holds, each counted each time it is reached (what is shared counts as often as it is met; a slice's spare places count too). A statement '..UptoSaid' is the law's where the arguments, and the package variables that the reading takes, are together of bulk at most 1048576: NARROWER than '..Said'. Prove '..Said' where nothing that the law and all that it calls make is longer than what came in: it says more and counts as full. Else prove '..UptoSaid'. A law counts once. -/
mutual
def uptoBulk {H : Type} : DataW H → Nat
  | .lit (.string bytes) => bytes.length + 1
  | .lit _ => 1
  | .nil => 1
  | .ptr d => uptoBulk d + 1
  | .slice elems spare => uptoBulkAll elems + uptoBulkAll spare + 1
  | .agg parts => uptoBulkAll parts + 1
  | .iface _ d => uptoBulk d + 1
  | .map entries => uptoBulkEntries entries + 1
  | .held _ => 1
def uptoBulkAll {H : Type} : List (DataW H) → Nat
  | [] => 0
  | d :: r => uptoBulk d + uptoBulkAll r
def uptoBulkEntries {H : Type} : List (Lit × DataW H) → Nat
  | [] => 0
  | x :: r => uptoBulkEntry x + uptoBulkEntries r
def uptoBulkEntry {H : Type} : Lit × DataW H → Nat
  | (.string bytes, d) => bytes.length + uptoBulk d + 1
  | (_, d) => uptoBulk d + 1
 end
def uptoSmall : (H : Type) → List (DataW H) → Bool := fun _ ds => decide (uptoBulkAll ds ≤ 1048576)
def OpenSpec.upto (s : _root_.Go.ChangeSpec) : _root_.Go.OpenSpec := { _root_.Go.OpenSpec.ofChange s with cond := some uptoSmall }

/-- 'laws.FnExactCountInvolutions', WHERE WHAT IT READS IS OF BULK AT MOST 1048576: true; the input reads as it did. -/
def fnExactCountInvolutionsUptoRow : OpenClaim := { program := "ytipjomdldjbenaagreatdoor", sum := "ffdfdc7c79c7303792e44dc82fd945e8abc20ae22a0ea05ed6531f45cb6ccda4", func := "loop.example/g02076/laws.FnExactCountInvolutions", spec := "fnExactCountInvolutions", inPlace := ["internal/bytealg.CountString", "internal/bytealg.IndexByteString", "internal/bytealg.IndexString", "internal/abi.NoEscape", "internal/bytealg.MakeNoZero"], unfollowed := true, recurses := true, named := ["unicode/utf8.first", "unicode/utf8.acceptRanges", "internal/bytealg.MaxLen"], plainKeys := false, apart := false, laid := [("unicode/utf8.acceptRanges", laid_unicode_utf8_acceptRanges), ("unicode/utf8.first", laid_unicode_utf8_first)], narrowed := true }
def FnExactCountInvolutionsUptoSaid : Prop := fnExactCountInvolutionsUptoRow.holds Tryz.pinned (OpenSpec.upto fnExactCountInvolutionsSpec)

/-- 'laws.FnExactIsRationallySmooth', WHERE WHAT IT READS IS OF BULK AT MOST 1048576: true; the input reads as it did. -/
def fnExactIsRationallySmoothUptoRow : OpenClaim := { program := "ytipjomdldjbenaagreatdoor", sum := "ffdfdc7c79c7303792e44dc82fd945e8abc20ae22a0ea05ed6531f45cb6ccda4", func := "loop.example/g02076/laws.FnExactIsRationallySmooth", spec := "fnExactIsRationallySmooth", inPlace := ["internal/bytealg.CountString", "internal/bytealg.IndexByteString", "internal/bytealg.IndexString", "internal/abi.NoEscape", "internal/bytealg.MakeNoZero"], unfollowed := true, recurses := true, named := ["unicode/utf8.first", "unicode/utf8.acceptRanges", "internal/bytealg.MaxLen"], plainKeys := false, apart := false, laid := [("unicode/utf8.acceptRanges", laid_unicode_utf8_acceptRanges), ("unicode/utf8.first", laid_unicode_utf8_first)], narrowed := true }
def FnExactIsRationallySmoothUptoSaid : Prop := fnExactIsRationallySmoothUptoRow.holds Tryz.pinned (OpenSpec.upto fnExactIsRationallySmoothSpec)

/-- 'laws.FnExactMuOf', WHERE WHAT IT READS IS OF BULK AT MOST 1048576: true; the input reads as it did. -/
def fnExactMuOfUptoRow : OpenClaim := { program := "ytipjomdldjbenaagreatdoor", sum := "ffdfdc7c79c7303792e44dc82fd945e8abc20ae22a0ea05ed6531f45cb6ccda4", func := "loop.example/g02076/laws.FnExactMuOf", spec := "fnExactMuOf", inPlace := ["internal/bytealg.CountString", "internal/bytealg.IndexByteString", "internal/bytealg.IndexString", "internal/abi.NoEscape", "internal/bytealg.MakeNoZero"], unfollowed := true, recurses := true, named := ["unicode/utf8.first", "unicode/utf8.acceptRanges", "internal/bytealg.MaxLen"], plainKeys := false, apart := false, laid := [("unicode/utf8.acceptRanges", laid_unicode_utf8_acceptRanges), ("unicode/utf8.first", laid_unicode_utf8_first)], narrowed := true }
def FnExactMuOfUptoSaid : Prop := fnExactMuOfUptoRow.holds Tryz.pinned (OpenSpec.upto fnExactMuOfSpec)

/-- 'laws.FnExactKLPolynomial', WHERE WHAT IT READS IS OF BULK AT MOST 1048576: true; the input reads as it did. -/
def fnExactKLPolynomialUptoRow : OpenClaim := { program := "ytipjomdldjbenaagreatdoor", sum := "ffdfdc7c79c7303792e44dc82fd945e8abc20ae22a0ea05ed6531f45cb6ccda4", func := "loop.example/g02076/laws.FnExactKLPolynomial", spec := "fnExactKLPolynomial", inPlace := ["internal/bytealg.CountString", "internal/bytealg.IndexByteString", "internal/bytealg.IndexString", "internal/abi.NoEscape", "internal/bytealg.MakeNoZero"], unfollowed := true, recurses := true, named := ["unicode/utf8.first", "unicode/utf8.acceptRanges", "internal/bytealg.MaxLen"], plainKeys := false, apart := false, laid := [("unicode/utf8.acceptRanges", laid_unicode_utf8_acceptRanges), ("unicode/utf8.first", laid_unicode_utf8_first)], narrowed := true }
def FnExactKLPolynomialUptoSaid : Prop := fnExactKLPolynomialUptoRow.holds Tryz.pinned (OpenSpec.upto fnExactKLPolynomialSpec)

/-- 'laws.FnExactKLRow', WHERE WHAT IT READS IS OF BULK AT MOST 1048576: true; the input reads as it did. -/
def fnExactKLRowUptoRow : OpenClaim := { program := "ytipjomdldjbenaagreatdoor", sum := "ffdfdc7c79c7303792e44dc82fd945e8abc20ae22a0ea05ed6531f45cb6ccda4", func := "loop.example/g02076/laws.FnExactKLRow", spec := "fnExactKLRow", inPlace := ["internal/bytealg.CountString", "internal/bytealg.IndexByteString", "internal/bytealg.IndexString", "internal/abi.NoEscape", "internal/bytealg.MakeNoZero"], unfollowed := true, recurses := true, named := ["unicode/utf8.first", "unicode/utf8.acceptRanges", "internal/bytealg.MaxLen"], plainKeys := false, apart := false, laid := [("unicode/utf8.acceptRanges", laid_unicode_utf8_acceptRanges), ("unicode/utf8.first", laid_unicode_utf8_first)], narrowed := true }
def FnExactKLRowUptoSaid : Prop := fnExactKLRowUptoRow.holds Tryz.pinned (OpenSpec.upto fnExactKLRowSpec)

/-- 'laws.FnExactBettiOf', WHERE WHAT IT READS IS OF BULK AT MOST 1048576: true; the input reads as it did. -/
def fnExactBettiOfUptoRow : OpenClaim := { program := "ytipjomdldjbenaagreatdoor", sum := "ffdfdc7c79c7303792e44dc82fd945e8abc20ae22a0ea05ed6531f45cb6ccda4", func := "loop.example/g02076/laws.FnExactBettiOf", spec := "fnExactBettiOf", inPlace := ["internal/bytealg.CountString", "internal/bytealg.IndexByteString", "internal/bytealg.IndexString", "internal/abi.NoEscape", "internal/bytealg.MakeNoZero"], unfollowed := true, recurses := true, named := ["unicode/utf8.first", "unicode/utf8.acceptRanges", "internal/bytealg.MaxLen"], plainKeys := false, apart := false, laid := [("unicode/utf8.acceptRanges", laid_unicode_utf8_acceptRanges), ("unicode/utf8.first", laid_unicode_utf8_first)], narrowed := true }
def FnExactBettiOfUptoSaid : Prop := fnExactBettiOfUptoRow.holds Tryz.pinned (OpenSpec.upto fnExactBettiOfSpec)

/-- 'laws.FnExactWGraph', WHERE WHAT IT READS IS OF BULK AT MOST 1048576: true; the input reads as it did. -/
def fnExactWGraphUptoRow : OpenClaim := { program := "ytipjomdldjbenaagreatdoor", sum := "ffdfdc7c79c7303792e44dc82fd945e8abc20ae22a0ea05ed6531f45cb6ccda4", func := "loop.example/g02076/laws.FnExactWGraph", spec := "fnExactWGraph", inPlace := ["internal/bytealg.CountString", "internal/bytealg.IndexByteString", "internal/bytealg.IndexString", "internal/abi.NoEscape", "internal/bytealg.MakeNoZero"], unfollowed := true, recurses := true, named := ["unicode/utf8.first", "unicode/utf8.acceptRanges", "internal/bytealg.MaxLen"], plainKeys := false, apart := false, laid := [("unicode/utf8.acceptRanges", laid_unicode_utf8_acceptRanges), ("unicode/utf8.first", laid_unicode_utf8_first)], narrowed := true }
def FnExactWGraphUptoSaid : Prop := fnExactWGraphUptoRow.holds Tryz.pinned (OpenSpec.upto fnExactWGraphSpec)

/-- 'laws.FnExactCanonicalBasis', WHERE WHAT IT READS IS OF BULK AT MOST 1048576: true; the input reads as it did. -/
def fnExactCanonicalBasisUptoRow : OpenClaim := { program := "ytipjomdldjbenaagreatdoor", sum := "ffdfdc7c79c7303792e44dc82fd945e8abc20ae22a0ea05ed6531f45cb6ccda4", func := "loop.example/g02076/laws.FnExactCanonicalBasis", spec := "fnExactCanonicalBasis", inPlace := ["internal/bytealg.CountString", "internal/bytealg.IndexByteString", "internal/bytealg.IndexString", "internal/abi.NoEscape", "internal/bytealg.MakeNoZero"], unfollowed := true, recurses := true, named := ["unicode/utf8.first", "unicode/utf8.acceptRanges", "internal/bytealg.MaxLen"], plainKeys := false, apart := false, laid := [("unicode/utf8.acceptRanges", laid_unicode_utf8_acceptRanges), ("unicode/utf8.first", laid_unicode_utf8_first)], narrowed := true }
def FnExactCanonicalBasisUptoSaid : Prop := fnExactCanonicalBasisUptoRow.holds Tryz.pinned (OpenSpec.upto fnExactCanonicalBasisSpec)

/-- 'laws.FnExactLeftCells', WHERE WHAT IT READS IS OF BULK AT MOST 1048576: true; the input reads as it did. -/
def fnExactLeftCellsUptoRow : OpenClaim := { program := "ytipjomdldjbenaagreatdoor", sum := "ffdfdc7c79c7303792e44dc82fd945e8abc20ae22a0ea05ed6531f45cb6ccda4", func := "loop.example/g02076/laws.FnExactLeftCells", spec := "fnExactLeftCells", inPlace := ["internal/bytealg.CountString", "internal/bytealg.IndexByteString", "internal/bytealg.IndexString", "internal/abi.NoEscape", "internal/bytealg.MakeNoZero"], unfollowed := true, recurses := true, named := ["unicode/utf8.first", "unicode/utf8.acceptRanges", "internal/bytealg.MaxLen"], plainKeys := false, apart := false, laid := [("unicode/utf8.acceptRanges", laid_unicode_utf8_acceptRanges), ("unicode/utf8.first", laid_unicode_utf8_first)], narrowed := true }
def FnExactLeftCellsUptoSaid : Prop := fnExactLeftCellsUptoRow.holds Tryz.pinned (OpenSpec.upto fnExactLeftCellsSpec)

/-- 'laws.FnExactRightCells', WHERE WHAT IT READS IS OF BULK AT MOST 1048576: true; the input reads as it did. -/
def fnExactRightCellsUptoRow : OpenClaim := { program := "ytipjomdldjbenaagreatdoor", sum := "ffdfdc7c79c7303792e44dc82fd945e8abc20ae22a0ea05ed6531f45cb6ccda4", func := "loop.example/g02076/laws.FnExactRightCells", spec := "fnExactRightCells", inPlace := ["internal/bytealg.CountString", "internal/bytealg.IndexByteString", "internal/bytealg.IndexString", "internal/abi.NoEscape", "internal/bytealg.MakeNoZero"], unfollowed := true, recurses := true, named := ["unicode/utf8.first", "unicode/utf8.acceptRanges", "internal/bytealg.MaxLen"], plainKeys := false, apart := false, laid := [("unicode/utf8.acceptRanges", laid_unicode_utf8_acceptRanges), ("unicode/utf8.first", laid_unicode_utf8_first)], narrowed := true }
def FnExactRightCellsUptoSaid : Prop := fnExactRightCellsUptoRow.holds Tryz.pinned (OpenSpec.upto fnExactRightCellsSpec)

end Rows
end Go.Proofs.YtipjomdldjbenaaGreatDoor
