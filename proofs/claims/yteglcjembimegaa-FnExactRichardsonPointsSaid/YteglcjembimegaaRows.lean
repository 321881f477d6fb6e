/-
  No cell of these rows narrows 'for every input' (looked for: loops, veiled, ifaces, maps, wideKeys, modest, calm, conditions, laid).
  DERIVED. THE GIVEN ROWS OF THIS SEAT. 10 by the template 'for every input the law returns true; each argument reads behind the call as it read before'; 0 by the template 'total and deterministic' (their statements: YteglcjembimegaaTotals.lean).
  GIVEN WITH THE SEED: the statements are not yours to turn. If you find one false, say at which input.
  Laid BY PROGRAM, IN A SANDBOX (cutbox-rows.mjs): the forced cells as the released guide's own fill.sh prints them over the translation b6ea076553aa74b7… (all of the seat's roots in one cut). By AI agents, Wed Nov 11 2026. No macro, syntax, notation, axiom, sorry.
-/
import Derived.Test.YteglcjembimegaaChecked
import GoSem.Claim
import GoSem.ClaimJoined
import GoSem.ClaimMapViews
import Derived.JoinedTies
import Derived.KernelRfl
namespace Go.Proofs.Yteglcjembimegaa
/- THE CELL 'sum', in the pinned program and in every row, IS THE sha256 OF THE DUMP (.gsa) THAT YteglcjembimegaaProg.lean LOADS. Nothing in Lean hashes anything: it is a label: what it is worth is what the hold of that sum in a sandbox is worth. -/
noncomputable def Try.pinned : Pinned := { name := "yteglcjembimegaa", sum := "b6ea076553aa74b731272d8adfdc4cadc56f276d552f4a0b60e531466ed9f093", checked := Try.checked }
namespace Rows
def none {H : Type} : Left H := { results := [], args := [] }

/-- 'laws.FnExactIsWeightBelow': WHATEVER THE INPUT: true; the input reads as it did. -/
def fnExactIsWeightBelowSpec : ChangeSpec := { name := "fnExactIsWeightBelow", fn := fun _ => fun
  | [d1, d2, d3] => { results := [.lit (.bool true)], args := [d1, d2, d3] }
  | _ => none }
def fnExactIsWeightBelowRow : OpenClaim := { program := "yteglcjembimegaa", sum := "b6ea076553aa74b731272d8adfdc4cadc56f276d552f4a0b60e531466ed9f093", func := "loop.example/g02076/laws.FnExactIsWeightBelow", spec := "fnExactIsWeightBelow", recurses := true, plainKeys := false, apart := false }
def FnExactIsWeightBelowSaid : Prop := fnExactIsWeightBelowRow.holds Try.pinned (OpenSpec.ofChange fnExactIsWeightBelowSpec)

/-- ITS FALSE NEIGHBOUR: 'it returns false'. Refute it at one input. -/
def fnExactIsWeightBelowWrong : ChangeSpec := { name := "fnExactIsWeightBelow", fn := fun _ => fun
  | [d1, d2, d3] => { results := [.lit (.bool false)], args := [d1, d2, d3] }
  | _ => none }
def FnExactIsWeightBelowWrongFalsely : Prop := fnExactIsWeightBelowRow.holds Try.pinned (OpenSpec.ofChange fnExactIsWeightBelowWrong)

/-- 'laws.FnExactDominantOf': WHATEVER THE INPUT: true; the input reads as it did. -/
def fnExactDominantOfSpec : ChangeSpec := { name := "fnExactDominantOf", fn := fun _ => fun
  | [d1, d2] => { results := [.lit (.bool true)], args := [d1, d2] }
  | _ => none }
def fnExactDominantOfRow : OpenClaim := { program := "yteglcjembimegaa", sum := "b6ea076553aa74b731272d8adfdc4cadc56f276d552f4a0b60e531466ed9f093", func := "loop.example/g02076/laws.FnExactDominantOf", spec := "fnExactDominantOf", recurses := true, plainKeys := false, apart := false }
def FnExactDominantOfSaid : Prop := fnExactDominantOfRow.holds Try.pinned (OpenSpec.ofChange fnExactDominantOfSpec)

/-- ITS FALSE NEIGHBOUR: 'it returns false'. Refute it at one input. -/
def fnExactDominantOfWrong : ChangeSpec := { name := "fnExactDominantOf", fn := fun _ => fun
  | [d1, d2] => { results := [.lit (.bool false)], args := [d1, d2] }
  | _ => none }
def FnExactDominantOfWrongFalsely : Prop := fnExactDominantOfRow.holds Try.pinned (OpenSpec.ofChange fnExactDominantOfWrong)

/-- 'laws.FnExactRPolynomial': WHATEVER THE INPUT: true; the input reads as it did. -/
def fnExactRPolynomialSpec : ChangeSpec := { name := "fnExactRPolynomial", fn := fun _ => fun
  | [d1, d2, d3] => { results := [.lit (.bool true)], args := [d1, d2, d3] }
  | _ => none }
def fnExactRPolynomialRow : OpenClaim := { program := "yteglcjembimegaa", sum := "b6ea076553aa74b731272d8adfdc4cadc56f276d552f4a0b60e531466ed9f093", func := "loop.example/g02076/laws.FnExactRPolynomial", spec := "fnExactRPolynomial", recurses := true, plainKeys := false, apart := false }
def FnExactRPolynomialSaid : Prop := fnExactRPolynomialRow.holds Try.pinned (OpenSpec.ofChange fnExactRPolynomialSpec)

/-- ITS FALSE NEIGHBOUR: 'it returns false'. Refute it at one input. -/
def fnExactRPolynomialWrong : ChangeSpec := { name := "fnExactRPolynomial", fn := fun _ => fun
  | [d1, d2, d3] => { results := [.lit (.bool false)], args := [d1, d2, d3] }
  | _ => none }
def FnExactRPolynomialWrongFalsely : Prop := fnExactRPolynomialRow.holds Try.pinned (OpenSpec.ofChange fnExactRPolynomialWrong)

/-- 'laws.FnExactIsHecke': WHATEVER THE INPUT: true; the input reads as it did. -/
def fnExactIsHeckeSpec : ChangeSpec := { name := "fnExactIsHecke", fn := fun _ => fun
  | [d1, d2] => { results := [.lit (.bool true)], args := [d1, d2] }
  | _ => none }
def fnExactIsHeckeRow : OpenClaim := { program := "yteglcjembimegaa", sum := "b6ea076553aa74b731272d8adfdc4cadc56f276d552f4a0b60e531466ed9f093", func := "loop.example/g02076/laws.FnExactIsHecke", spec := "fnExactIsHecke", plainKeys := false, apart := false }
def FnExactIsHeckeSaid : Prop := fnExactIsHeckeRow.holds Try.pinned (OpenSpec.ofChange fnExactIsHeckeSpec)

/-- ITS FALSE NEIGHBOUR: 'it returns false'. Refute it at one input. -/
def fnExactIsHeckeWrong : ChangeSpec := { name := "fnExactIsHecke", fn := fun _ => fun
  | [d1, d2] => { results := [.lit (.bool false)], args := [d1, d2] }
  | _ => none }
def FnExactIsHeckeWrongFalsely : Prop := fnExactIsHeckeRow.holds Try.pinned (OpenSpec.ofChange fnExactIsHeckeWrong)

/-- 'laws.FnExactRichardsonPoints': WHATEVER THE INPUT: true; the input reads as it did. -/
def fnExactRichardsonPointsSpec : ChangeSpec := { name := "fnExactRichardsonPoints", fn := fun _ => fun
  | [d1, d2, d3, d4] => { results := [.lit (.bool true)], args := [d1, d2, d3, d4] }
  | _ => none }
def fnExactRichardsonPointsRow : OpenClaim := { program := "yteglcjembimegaa", sum := "b6ea076553aa74b731272d8adfdc4cadc56f276d552f4a0b60e531466ed9f093", func := "loop.example/g02076/laws.FnExactRichardsonPoints", spec := "fnExactRichardsonPoints", recurses := true, plainKeys := false, apart := false }
def FnExactRichardsonPointsSaid : Prop := fnExactRichardsonPointsRow.holds Try.pinned (OpenSpec.ofChange fnExactRichardsonPointsSpec)

/-- ITS FALSE NEIGHBOUR: 'it returns false'. Refute it at one input. -/
def fnExactRichardsonPointsWrong : ChangeSpec := { name := "fnExactRichardsonPoints", fn := fun _ => fun
  | [d1, d2, d3, d4] => { results := [.lit (.bool false)], args := [d1, d2, d3, d4] }
  | _ => none }
def FnExactRichardsonPointsWrongFalsely : Prop := fnExactRichardsonPointsRow.holds Try.pinned (OpenSpec.ofChange fnExactRichardsonPointsWrong)

/-- 'laws.FnExactDotDominant': WHATEVER THE INPUT: true; the input reads as it did. -/
def fnExactDotDominantSpec : ChangeSpec := { name := "fnExactDotDominant", fn := fun _ => fun
  | [d1, d2] => { results := [.lit (.bool true)], args := [d1, d2] }
  | _ => none }
def fnExactDotDominantRow : OpenClaim := { program := "yteglcjembimegaa", sum := "b6ea076553aa74b731272d8adfdc4cadc56f276d552f4a0b60e531466ed9f093", func := "loop.example/g02076/laws.FnExactDotDominant", spec := "fnExactDotDominant", recurses := true, plainKeys := false, apart := false }
def FnExactDotDominantSaid : Prop := fnExactDotDominantRow.holds Try.pinned (OpenSpec.ofChange fnExactDotDominantSpec)

/-- ITS FALSE NEIGHBOUR: 'it returns false'. Refute it at one input. -/
def fnExactDotDominantWrong : ChangeSpec := { name := "fnExactDotDominant", fn := fun _ => fun
  | [d1, d2] => { results := [.lit (.bool false)], args := [d1, d2] }
  | _ => none }
def FnExactDotDominantWrongFalsely : Prop := fnExactDotDominantRow.holds Try.pinned (OpenSpec.ofChange fnExactDotDominantWrong)

/-- 'laws.FnExactCoversAll': WHATEVER THE INPUT: true; the input reads as it did. -/
def fnExactCoversAllSpec : ChangeSpec := { name := "fnExactCoversAll", fn := fun _ => fun
  | [d1, d2] => { results := [.lit (.bool true)], args := [d1, d2] }
  | _ => none }
def fnExactCoversAllRow : OpenClaim := { program := "yteglcjembimegaa", sum := "b6ea076553aa74b731272d8adfdc4cadc56f276d552f4a0b60e531466ed9f093", func := "loop.example/g02076/laws.FnExactCoversAll", spec := "fnExactCoversAll", recurses := true, plainKeys := false, apart := false }
def FnExactCoversAllSaid : Prop := fnExactCoversAllRow.holds Try.pinned (OpenSpec.ofChange fnExactCoversAllSpec)

/-- ITS FALSE NEIGHBOUR: 'it returns false'. Refute it at one input. -/
def fnExactCoversAllWrong : ChangeSpec := { name := "fnExactCoversAll", fn := fun _ => fun
  | [d1, d2] => { results := [.lit (.bool false)], args := [d1, d2] }
  | _ => none }
def FnExactCoversAllWrongFalsely : Prop := fnExactCoversAllRow.holds Try.pinned (OpenSpec.ofChange fnExactCoversAllWrong)

/-- 'laws.FnExactScaleHecke': WHATEVER THE INPUT: true; the input reads as it did. -/
def fnExactScaleHeckeSpec : ChangeSpec := { name := "fnExactScaleHecke", fn := fun _ => fun
  | [d1, d2, d3] => { results := [.lit (.bool true)], args := [d1, d2, d3] }
  | _ => none }
def fnExactScaleHeckeRow : OpenClaim := { program := "yteglcjembimegaa", sum := "b6ea076553aa74b731272d8adfdc4cadc56f276d552f4a0b60e531466ed9f093", func := "loop.example/g02076/laws.FnExactScaleHecke", spec := "fnExactScaleHecke", unfollowed := true, recurses := true, plainKeys := false, apart := false }
def FnExactScaleHeckeSaid : Prop := fnExactScaleHeckeRow.holds Try.pinned (OpenSpec.ofChange fnExactScaleHeckeSpec)

/-- ITS FALSE NEIGHBOUR: 'it returns false'. Refute it at one input. -/
def fnExactScaleHeckeWrong : ChangeSpec := { name := "fnExactScaleHecke", fn := fun _ => fun
  | [d1, d2, d3] => { results := [.lit (.bool false)], args := [d1, d2, d3] }
  | _ => none }
def FnExactScaleHeckeWrongFalsely : Prop := fnExactScaleHeckeRow.holds Try.pinned (OpenSpec.ofChange fnExactScaleHeckeWrong)

/-- 'laws.FnExactAddHecke': WHATEVER THE INPUT: true; the input reads as it did. -/
def fnExactAddHeckeSpec : ChangeSpec := { name := "fnExactAddHecke", fn := fun _ => fun
  | [d1, d2, d3] => { results := [.lit (.bool true)], args := [d1, d2, d3] }
  | _ => none }
def fnExactAddHeckeRow : OpenClaim := { program := "yteglcjembimegaa", sum := "b6ea076553aa74b731272d8adfdc4cadc56f276d552f4a0b60e531466ed9f093", func := "loop.example/g02076/laws.FnExactAddHecke", spec := "fnExactAddHecke", unfollowed := true, recurses := true, plainKeys := false, apart := false }
def FnExactAddHeckeSaid : Prop := fnExactAddHeckeRow.holds Try.pinned (OpenSpec.ofChange fnExactAddHeckeSpec)

/-- ITS FALSE NEIGHBOUR: 'it returns false'. Refute it at one input. -/
def fnExactAddHeckeWrong : ChangeSpec := { name := "fnExactAddHecke", fn := fun _ => fun
  | [d1, d2, d3] => { results := [.lit (.bool false)], args := [d1, d2, d3] }
  | _ => none }
def FnExactAddHeckeWrongFalsely : Prop := fnExactAddHeckeRow.holds Try.pinned (OpenSpec.ofChange fnExactAddHeckeWrong)

/-- 'laws.FnExactMulLetter': WHATEVER THE INPUT: true; the input reads as it did. -/
def fnExactMulLetterSpec : ChangeSpec := { name := "fnExactMulLetter", fn := fun _ => fun
  | [d1, d2, d3] => { results := [.lit (.bool true)], args := [d1, d2, d3] }
  | _ => none }
def fnExactMulLetterRow : OpenClaim := { program := "yteglcjembimegaa", sum := "b6ea076553aa74b731272d8adfdc4cadc56f276d552f4a0b60e531466ed9f093", func := "loop.example/g02076/laws.FnExactMulLetter", spec := "fnExactMulLetter", unfollowed := true, recurses := true, plainKeys := false, apart := false }
def FnExactMulLetterSaid : Prop := fnExactMulLetterRow.holds Try.pinned (OpenSpec.ofChange fnExactMulLetterSpec)

/-- ITS FALSE NEIGHBOUR: 'it returns false'. Refute it at one input. -/
def fnExactMulLetterWrong : ChangeSpec := { name := "fnExactMulLetter", fn := fun _ => fun
  | [d1, d2, d3] => { results := [.lit (.bool false)], args := [d1, d2, d3] }
  | _ => none }
def FnExactMulLetterWrongFalsely : Prop := fnExactMulLetterRow.holds Try.pinned (OpenSpec.ofChange fnExactMulLetterWrong)

/- THE SECOND FORM. 'bulk': how many values and letters a reading holds, each counted each time it is reached (what is shared counts as often as it is met; a slice's spare places count too). A statement '..UptoSaid' is the law's where the arguments, and the package variables that the reading takes, are together of bulk at most 1048576: NARROWER than '..Said'. Prove '..Said' where nothing that the law and all that it calls make is longer than what came in: it says more and counts as full. Else prove '..UptoSaid'. A law counts once. -/
mutual
def uptoBulk {H : Type} : DataW H → Nat
  | .lit (.string bytes) => bytes.length + 1
  | .lit _ => 1
  | .nil => 1
  | .ptr d => uptoBulk d + 1
  | .slice elems spare => uptoBulkAll elems + uptoBulkAll spare + 1
  | .agg parts => uptoBulkAll parts + 1
  | .iface _ d => uptoBulk d + 1
  | .map entries => uptoBulkEntries entries + 1
  | .held _ => 1
def uptoBulkAll {H : Type} : List (DataW H) → Nat
  | [] => 0
  | d :: r => uptoBulk d + uptoBulkAll r
def uptoBulkEntries {H : Type} : List (Lit × DataW H) → Nat
  | [] => 0
  | x :: r => uptoBulkEntry x + uptoBulkEntries r
def uptoBulkEntry {H : Type} : Lit × DataW H → Nat
  | (.string bytes, d) => bytes.length + uptoBulk d + 1
  | (_, d) => uptoBulk d + 1
 end
def uptoSmall : (H : Type) → List (DataW H) → Bool := fun _ ds => decide (uptoBulkAll ds ≤ 1048576)
def OpenSpec.upto (s : _root_.Go.ChangeSpec) : _root_.Go.OpenSpec := { _root_.Go.OpenSpec.ofChange s with cond := some uptoSmall }

/-- 'laws.FnExactIsWeightBelow', WHERE WHAT IT READS IS OF BULK AT MOST 1048576: true; the input reads as it did. -/
def fnExactIsWeightBelowUptoRow : OpenClaim := { program := "yteglcjembimegaa", sum := "b6ea076553aa74b731272d8adfdc4cadc56f276d552f4a0b60e531466ed9f093", func := "loop.example/g02076/laws.FnExactIsWeightBelow", spec := "fnExactIsWeightBelow", recurses := true, plainKeys := false, apart := false, narrowed := true }
def FnExactIsWeightBelowUptoSaid : Prop := fnExactIsWeightBelowUptoRow.holds Try.pinned (OpenSpec.upto fnExactIsWeightBelowSpec)

/-- 'laws.FnExactDominantOf', WHERE WHAT IT READS IS OF BULK AT MOST 1048576: true; the input reads as it did. -/
def fnExactDominantOfUptoRow : OpenClaim := { program := "yteglcjembimegaa", sum := "b6ea076553aa74b731272d8adfdc4cadc56f276d552f4a0b60e531466ed9f093", func := "loop.example/g02076/laws.FnExactDominantOf", spec := "fnExactDominantOf", recurses := true, plainKeys := false, apart := false, narrowed := true }
def FnExactDominantOfUptoSaid : Prop := fnExactDominantOfUptoRow.holds Try.pinned (OpenSpec.upto fnExactDominantOfSpec)

/-- 'laws.FnExactRPolynomial', WHERE WHAT IT READS IS OF BULK AT MOST 1048576: true; the input reads as it did. -/
def fnExactRPolynomialUptoRow : OpenClaim := { program := "yteglcjembimegaa", sum := "b6ea076553aa74b731272d8adfdc4cadc56f276d552f4a0b60e531466ed9f093", func := "loop.example/g02076/laws.FnExactRPolynomial", spec := "fnExactRPolynomial", recurses := true, plainKeys := false, apart := false, narrowed := true }
def FnExactRPolynomialUptoSaid : Prop := fnExactRPolynomialUptoRow.holds Try.pinned (OpenSpec.upto fnExactRPolynomialSpec)

/-- 'laws.FnExactIsHecke', WHERE WHAT IT READS IS OF BULK AT MOST 1048576: true; the input reads as it did. -/
def fnExactIsHeckeUptoRow : OpenClaim := { program := "yteglcjembimegaa", sum := "b6ea076553aa74b731272d8adfdc4cadc56f276d552f4a0b60e531466ed9f093", func := "loop.example/g02076/laws.FnExactIsHecke", spec := "fnExactIsHecke", plainKeys := false, apart := false, narrowed := true }
def FnExactIsHeckeUptoSaid : Prop := fnExactIsHeckeUptoRow.holds Try.pinned (OpenSpec.upto fnExactIsHeckeSpec)

/-- 'laws.FnExactRichardsonPoints', WHERE WHAT IT READS IS OF BULK AT MOST 1048576: true; the input reads as it did. -/
def fnExactRichardsonPointsUptoRow : OpenClaim := { program := "yteglcjembimegaa", sum := "b6ea076553aa74b731272d8adfdc4cadc56f276d552f4a0b60e531466ed9f093", func := "loop.example/g02076/laws.FnExactRichardsonPoints", spec := "fnExactRichardsonPoints", recurses := true, plainKeys := false, apart := false, narrowed := true }
def FnExactRichardsonPointsUptoSaid : Prop := fnExactRichardsonPointsUptoRow.holds Try.pinned (OpenSpec.upto fnExactRichardsonPointsSpec)

/-- 'laws.FnExactDotDominant', WHERE WHAT IT READS IS OF BULK AT MOST 1048576: true; the input reads as it did. -/
def fnExactDotDominantUptoRow : OpenClaim := { program := "yteglcjembimegaa", sum := "b6ea076553aa74b731272d8adfdc4cadc56f276d552f4a0b60e531466ed9f093", func := "loop.example/g02076/laws.FnExactDotDominant", spec := "fnExactDotDominant", recurses := true, plainKeys := false, apart := false, narrowed := true }
def FnExactDotDominantUptoSaid : Prop := fnExactDotDominantUptoRow.holds Try.pinned (OpenSpec.upto fnExactDotDominantSpec)

/-- 'laws.FnExactCoversAll', WHERE WHAT IT READS IS OF BULK AT MOST 1048576: true; the input reads as it did. -/
def fnExactCoversAllUptoRow : OpenClaim := { program := "yteglcjembimegaa", sum := "b6ea076553aa74b731272d8adfdc4cadc56f276d552f4a0b60e531466ed9f093", func := "loop.example/g02076/laws.FnExactCoversAll", spec := "fnExactCoversAll", recurses := true, plainKeys := false, apart := false, narrowed := true }
def FnExactCoversAllUptoSaid : Prop := fnExactCoversAllUptoRow.holds Try.pinned (OpenSpec.upto fnExactCoversAllSpec)

/-- 'laws.FnExactScaleHecke', WHERE WHAT IT READS IS OF BULK AT MOST 1048576: true; the input reads as it did. -/
def fnExactScaleHeckeUptoRow : OpenClaim := { program := "yteglcjembimegaa", sum := "b6ea076553aa74b731272d8adfdc4cadc56f276d552f4a0b60e531466ed9f093", func := "loop.example/g02076/laws.FnExactScaleHecke", spec := "fnExactScaleHecke", unfollowed := true, recurses := true, plainKeys := false, apart := false, narrowed := true }
def FnExactScaleHeckeUptoSaid : Prop := fnExactScaleHeckeUptoRow.holds Try.pinned (OpenSpec.upto fnExactScaleHeckeSpec)

/-- 'laws.FnExactAddHecke', WHERE WHAT IT READS IS OF BULK AT MOST 1048576: true; the input reads as it did. -/
def fnExactAddHeckeUptoRow : OpenClaim := { program := "yteglcjembimegaa", sum := "b6ea076553aa74b731272d8adfdc4cadc56f276d552f4a0b60e531466ed9f093", func := "loop.example/g02076/laws.FnExactAddHecke", spec := "fnExactAddHecke", unfollowed := true, recurses := true, plainKeys := false, apart := false, narrowed := true }
def FnExactAddHeckeUptoSaid : Prop := fnExactAddHeckeUptoRow.holds Try.pinned (OpenSpec.upto fnExactAddHeckeSpec)

/-- 'laws.FnExactMulLetter', WHERE WHAT IT READS IS OF BULK AT MOST 1048576: true; the input reads as it did. -/
def fnExactMulLetterUptoRow : OpenClaim := { program := "yteglcjembimegaa", sum := "b6ea076553aa74b731272d8adfdc4cadc56f276d552f4a0b60e531466ed9f093", func := "loop.example/g02076/laws.FnExactMulLetter", spec := "fnExactMulLetter", unfollowed := true, recurses := true, plainKeys := false, apart := false, narrowed := true }
def FnExactMulLetterUptoSaid : Prop := fnExactMulLetterUptoRow.holds Try.pinned (OpenSpec.upto fnExactMulLetterSpec)

end Rows
end Go.Proofs.Yteglcjembimegaa
