/-
  No cell of these rows narrows 'for every input' (looked for: loops, veiled, ifaces, maps, wideKeys, modest, calm, conditions, laid).
  DERIVED. THE GIVEN ROWS OF THIS SEAT. 7 by the template 'for every input the law returns true; each argument reads behind the call as it read before'; 0 by the template 'total and deterministic' (their statements: YtkgjecabigdnoaaTotals.lean).
  GIVEN WITH THE SEED: the statements are not yours to turn. If you find one false, say at which input.
  Laid BY PROGRAM, IN A SANDBOX (cutbox-rows.mjs): the forced cells as the released guide's own fill.sh prints them over the translation 1f129d7f9c35a7a8… (all of the seat's roots in one cut). By AI agents, Wed Nov 11 2026. No macro, syntax, notation, axiom, sorry.
-/
import Derived.Test.YtkgjecabigdnoaaChecked
import GoSem.Claim
import GoSem.ClaimJoined
import GoSem.ClaimMapViews
import Derived.JoinedTies
import Derived.KernelRfl
namespace Go.Proofs.Ytkgjecabigdnoaa
/- THE CELL 'sum', in the pinned program and in every row, IS THE sha256 OF THE DUMP (.gsa) THAT YtkgjecabigdnoaaProg.lean LOADS. Nothing in Lean hashes anything: it is a label: what it is worth is what the hold of that sum in a sandbox is worth. -/
noncomputable def Try.pinned : Pinned := { name := "ytkgjecabigdnoaa", sum := "1f129d7f9c35a7a8f309b26e508f87eda12d14247912129a61e4406455dec758", checked := Try.checked }
namespace Rows
def none {H : Type} : Left H := { results := [], args := [] }

/-- 'laws.FnExactSymmetrizerOf': WHATEVER THE INPUT: true; the input reads as it did. -/
def fnExactSymmetrizerOfSpec : ChangeSpec := { name := "fnExactSymmetrizerOf", fn := fun _ => fun
  | [d] => { results := [.lit (.bool true)], args := [d] }
  | _ => none }
def fnExactSymmetrizerOfRow : OpenClaim := { program := "ytkgjecabigdnoaa", sum := "1f129d7f9c35a7a8f309b26e508f87eda12d14247912129a61e4406455dec758", func := "loop.example/g02076/laws.FnExactSymmetrizerOf", spec := "fnExactSymmetrizerOf", recurses := true, plainKeys := false, apart := false }
def FnExactSymmetrizerOfSaid : Prop := fnExactSymmetrizerOfRow.holds Try.pinned (OpenSpec.ofChange fnExactSymmetrizerOfSpec)

/-- ITS FALSE NEIGHBOUR: 'it returns false'. Refute it at one input. -/
def fnExactSymmetrizerOfWrong : ChangeSpec := { name := "fnExactSymmetrizerOf", fn := fun _ => fun
  | [d] => { results := [.lit (.bool false)], args := [d] }
  | _ => none }
def FnExactSymmetrizerOfWrongFalsely : Prop := fnExactSymmetrizerOfRow.holds Try.pinned (OpenSpec.ofChange fnExactSymmetrizerOfWrong)

/-- 'laws.FnExactRootNorm': WHATEVER THE INPUT: true; the input reads as it did. -/
def fnExactRootNormSpec : ChangeSpec := { name := "fnExactRootNorm", fn := fun _ => fun
  | [d1, d2] => { results := [.lit (.bool true)], args := [d1, d2] }
  | _ => none }
def fnExactRootNormRow : OpenClaim := { program := "ytkgjecabigdnoaa", sum := "1f129d7f9c35a7a8f309b26e508f87eda12d14247912129a61e4406455dec758", func := "loop.example/g02076/laws.FnExactRootNorm", spec := "fnExactRootNorm", recurses := true, plainKeys := false, apart := false }
def FnExactRootNormSaid : Prop := fnExactRootNormRow.holds Try.pinned (OpenSpec.ofChange fnExactRootNormSpec)

/-- ITS FALSE NEIGHBOUR: 'it returns false'. Refute it at one input. -/
def fnExactRootNormWrong : ChangeSpec := { name := "fnExactRootNorm", fn := fun _ => fun
  | [d1, d2] => { results := [.lit (.bool false)], args := [d1, d2] }
  | _ => none }
def FnExactRootNormWrongFalsely : Prop := fnExactRootNormRow.holds Try.pinned (OpenSpec.ofChange fnExactRootNormWrong)

/-- 'laws.FnExactOrbitOf': WHATEVER THE INPUT: true; the input reads as it did. -/
def fnExactOrbitOfSpec : ChangeSpec := { name := "fnExactOrbitOf", fn := fun _ => fun
  | [d1, d2] => { results := [.lit (.bool true)], args := [d1, d2] }
  | _ => none }
def fnExactOrbitOfRow : OpenClaim := { program := "ytkgjecabigdnoaa", sum := "1f129d7f9c35a7a8f309b26e508f87eda12d14247912129a61e4406455dec758", func := "loop.example/g02076/laws.FnExactOrbitOf", spec := "fnExactOrbitOf", unfollowed := true, recurses := true, plainKeys := false, apart := false }
def FnExactOrbitOfSaid : Prop := fnExactOrbitOfRow.holds Try.pinned (OpenSpec.ofChange fnExactOrbitOfSpec)

/-- ITS FALSE NEIGHBOUR: 'it returns false'. Refute it at one input. -/
def fnExactOrbitOfWrong : ChangeSpec := { name := "fnExactOrbitOf", fn := fun _ => fun
  | [d1, d2] => { results := [.lit (.bool false)], args := [d1, d2] }
  | _ => none }
def FnExactOrbitOfWrongFalsely : Prop := fnExactOrbitOfRow.holds Try.pinned (OpenSpec.ofChange fnExactOrbitOfWrong)

/-- 'laws.FnExactPositiveCoroots': WHATEVER THE INPUT: true; the input reads as it did. -/
def fnExactPositiveCorootsSpec : ChangeSpec := { name := "fnExactPositiveCoroots", fn := fun _ => fun
  | [d] => { results := [.lit (.bool true)], args := [d] }
  | _ => none }
def fnExactPositiveCorootsRow : OpenClaim := { program := "ytkgjecabigdnoaa", sum := "1f129d7f9c35a7a8f309b26e508f87eda12d14247912129a61e4406455dec758", func := "loop.example/g02076/laws.FnExactPositiveCoroots", spec := "fnExactPositiveCoroots", unfollowed := true, recurses := true, plainKeys := false, apart := false }
def FnExactPositiveCorootsSaid : Prop := fnExactPositiveCorootsRow.holds Try.pinned (OpenSpec.ofChange fnExactPositiveCorootsSpec)

/-- ITS FALSE NEIGHBOUR: 'it returns false'. Refute it at one input. -/
def fnExactPositiveCorootsWrong : ChangeSpec := { name := "fnExactPositiveCoroots", fn := fun _ => fun
  | [d] => { results := [.lit (.bool false)], args := [d] }
  | _ => none }
def FnExactPositiveCorootsWrongFalsely : Prop := fnExactPositiveCorootsRow.holds Try.pinned (OpenSpec.ofChange fnExactPositiveCorootsWrong)

/-- 'laws.FnExactIsMinuscule': WHATEVER THE INPUT: true; the input reads as it did. -/
def fnExactIsMinusculeSpec : ChangeSpec := { name := "fnExactIsMinuscule", fn := fun _ => fun
  | [d1, d2] => { results := [.lit (.bool true)], args := [d1, d2] }
  | _ => none }
def fnExactIsMinusculeRow : OpenClaim := { program := "ytkgjecabigdnoaa", sum := "1f129d7f9c35a7a8f309b26e508f87eda12d14247912129a61e4406455dec758", func := "loop.example/g02076/laws.FnExactIsMinuscule", spec := "fnExactIsMinuscule", unfollowed := true, recurses := true, plainKeys := false, apart := false }
def FnExactIsMinusculeSaid : Prop := fnExactIsMinusculeRow.holds Try.pinned (OpenSpec.ofChange fnExactIsMinusculeSpec)

/-- ITS FALSE NEIGHBOUR: 'it returns false'. Refute it at one input. -/
def fnExactIsMinusculeWrong : ChangeSpec := { name := "fnExactIsMinuscule", fn := fun _ => fun
  | [d1, d2] => { results := [.lit (.bool false)], args := [d1, d2] }
  | _ => none }
def FnExactIsMinusculeWrongFalsely : Prop := fnExactIsMinusculeRow.holds Try.pinned (OpenSpec.ofChange fnExactIsMinusculeWrong)

/-- 'laws.FnExactWeylDimension': WHATEVER THE INPUT: true; the input reads as it did. -/
def fnExactWeylDimensionSpec : ChangeSpec := { name := "fnExactWeylDimension", fn := fun _ => fun
  | [d1, d2] => { results := [.lit (.bool true)], args := [d1, d2] }
  | _ => none }
def fnExactWeylDimensionRow : OpenClaim := { program := "ytkgjecabigdnoaa", sum := "1f129d7f9c35a7a8f309b26e508f87eda12d14247912129a61e4406455dec758", func := "loop.example/g02076/laws.FnExactWeylDimension", spec := "fnExactWeylDimension", unfollowed := true, recurses := true, plainKeys := false, apart := false }
def FnExactWeylDimensionSaid : Prop := fnExactWeylDimensionRow.holds Try.pinned (OpenSpec.ofChange fnExactWeylDimensionSpec)

/-- ITS FALSE NEIGHBOUR: 'it returns false'. Refute it at one input. -/
def fnExactWeylDimensionWrong : ChangeSpec := { name := "fnExactWeylDimension", fn := fun _ => fun
  | [d1, d2] => { results := [.lit (.bool false)], args := [d1, d2] }
  | _ => none }
def FnExactWeylDimensionWrongFalsely : Prop := fnExactWeylDimensionRow.holds Try.pinned (OpenSpec.ofChange fnExactWeylDimensionWrong)

/-- 'laws.FnExactDominantBelow': WHATEVER THE INPUT: true; the input reads as it did. -/
def fnExactDominantBelowSpec : ChangeSpec := { name := "fnExactDominantBelow", fn := fun _ => fun
  | [d1, d2] => { results := [.lit (.bool true)], args := [d1, d2] }
  | _ => none }
def fnExactDominantBelowRow : OpenClaim := { program := "ytkgjecabigdnoaa", sum := "1f129d7f9c35a7a8f309b26e508f87eda12d14247912129a61e4406455dec758", func := "loop.example/g02076/laws.FnExactDominantBelow", spec := "fnExactDominantBelow", unfollowed := true, recurses := true, plainKeys := false, apart := false }
def FnExactDominantBelowSaid : Prop := fnExactDominantBelowRow.holds Try.pinned (OpenSpec.ofChange fnExactDominantBelowSpec)

/-- ITS FALSE NEIGHBOUR: 'it returns false'. Refute it at one input. -/
def fnExactDominantBelowWrong : ChangeSpec := { name := "fnExactDominantBelow", fn := fun _ => fun
  | [d1, d2] => { results := [.lit (.bool false)], args := [d1, d2] }
  | _ => none }
def FnExactDominantBelowWrongFalsely : Prop := fnExactDominantBelowRow.holds Try.pinned (OpenSpec.ofChange fnExactDominantBelowWrong)

/- THE SECOND FORM. 'bulk': how many values and letters a reading holds, each counted each time it is reached (what is shared counts as often as it is met; a slice's spare places count too). A statement '..UptoSaid' is the law's where the arguments, and the package variables that the reading takes, are together of bulk at most 1048576: NARROWER than '..Said'. Prove '..Said' where nothing that the law and all that it calls make is longer than what came in: it says more and counts as full. Else prove '..UptoSaid'. A law counts once. -/
mutual
def uptoBulk {H : Type} : DataW H → Nat
  | .lit (.string bytes) => bytes.length + 1
  | .lit _ => 1
  | .nil => 1
  | .ptr d => uptoBulk d + 1
  | .slice elems spare => uptoBulkAll elems + uptoBulkAll spare + 1
  | .agg parts => uptoBulkAll parts + 1
  | .iface _ d => uptoBulk d + 1
  | .map entries => uptoBulkEntries entries + 1
  | .held _ => 1
def uptoBulkAll {H : Type} : List (DataW H) → Nat
  | [] => 0
  | d :: r => uptoBulk d + uptoBulkAll r
def uptoBulkEntries {H : Type} : List (Lit × DataW H) → Nat
  | [] => 0
  | x :: r => uptoBulkEntry x + uptoBulkEntries r
def uptoBulkEntry {H : Type} : Lit × DataW H → Nat
  | (.string bytes, d) => bytes.length + uptoBulk d + 1
  | (_, d) => uptoBulk d + 1
 end
def uptoSmall : (H : Type) → List (DataW H) → Bool := fun _ ds => decide (uptoBulkAll ds ≤ 1048576)
def OpenSpec.upto (s : _root_.Go.ChangeSpec) : _root_.Go.OpenSpec := { _root_.Go.OpenSpec.ofChange s with cond := some uptoSmall }

/-- 'laws.FnExactSymmetrizerOf', WHERE WHAT IT READS IS OF BULK AT MOST 1048576: true; the input reads as it did. -/
def fnExactSymmetrizerOfUptoRow : OpenClaim := { program := "ytkgjecabigdnoaa", sum := "1f129d7f9c35a7a8f309b26e508f87eda12d14247912129a61e4406455dec758", func := "loop.example/g02076/laws.FnExactSymmetrizerOf", spec := "fnExactSymmetrizerOf", recurses := true, plainKeys := false, apart := false, narrowed := true }
def FnExactSymmetrizerOfUptoSaid : Prop := fnExactSymmetrizerOfUptoRow.holds Try.pinned (OpenSpec.upto fnExactSymmetrizerOfSpec)

/-- 'laws.FnExactRootNorm', WHERE WHAT IT READS IS OF BULK AT MOST 1048576: true; the input reads as it did. -/
def fnExactRootNormUptoRow : OpenClaim := { program := "ytkgjecabigdnoaa", sum := "1f129d7f9c35a7a8f309b26e508f87eda12d14247912129a61e4406455dec758", func := "loop.example/g02076/laws.FnExactRootNorm", spec := "fnExactRootNorm", recurses := true, plainKeys := false, apart := false, narrowed := true }
def FnExactRootNormUptoSaid : Prop := fnExactRootNormUptoRow.holds Try.pinned (OpenSpec.upto fnExactRootNormSpec)

/-- 'laws.FnExactOrbitOf', WHERE WHAT IT READS IS OF BULK AT MOST 1048576: true; the input reads as it did. -/
def fnExactOrbitOfUptoRow : OpenClaim := { program := "ytkgjecabigdnoaa", sum := "1f129d7f9c35a7a8f309b26e508f87eda12d14247912129a61e4406455dec758", func := "loop.example/g02076/laws.FnExactOrbitOf", spec := "fnExactOrbitOf", unfollowed := true, recurses := true, plainKeys := false, apart := false, narrowed := true }
def FnExactOrbitOfUptoSaid : Prop := fnExactOrbitOfUptoRow.holds Try.pinned (OpenSpec.upto fnExactOrbitOfSpec)

/-- 'laws.FnExactPositiveCoroots', WHERE WHAT IT READS IS OF BULK AT MOST 1048576: true; the input reads as it did. -/
def fnExactPositiveCorootsUptoRow : OpenClaim := { program := "ytkgjecabigdnoaa", sum := "1f129d7f9c35a7a8f309b26e508f87eda12d14247912129a61e4406455dec758", func := "loop.example/g02076/laws.FnExactPositiveCoroots", spec := "fnExactPositiveCoroots", unfollowed := true, recurses := true, plainKeys := false, apart := false, narrowed := true }
def FnExactPositiveCorootsUptoSaid : Prop := fnExactPositiveCorootsUptoRow.holds Try.pinned (OpenSpec.upto fnExactPositiveCorootsSpec)

/-- 'laws.FnExactIsMinuscule', WHERE WHAT IT READS IS OF BULK AT MOST 1048576: true; the input reads as it did. -/
def fnExactIsMinusculeUptoRow : OpenClaim := { program := "ytkgjecabigdnoaa", sum := "1f129d7f9c35a7a8f309b26e508f87eda12d14247912129a61e4406455dec758", func := "loop.example/g02076/laws.FnExactIsMinuscule", spec := "fnExactIsMinuscule", unfollowed := true, recurses := true, plainKeys := false, apart := false, narrowed := true }
def FnExactIsMinusculeUptoSaid : Prop := fnExactIsMinusculeUptoRow.holds Try.pinned (OpenSpec.upto fnExactIsMinusculeSpec)

/-- 'laws.FnExactWeylDimension', WHERE WHAT IT READS IS OF BULK AT MOST 1048576: true; the input reads as it did. -/
def fnExactWeylDimensionUptoRow : OpenClaim := { program := "ytkgjecabigdnoaa", sum := "1f129d7f9c35a7a8f309b26e508f87eda12d14247912129a61e4406455dec758", func := "loop.example/g02076/laws.FnExactWeylDimension", spec := "fnExactWeylDimension", unfollowed := true, recurses := true, plainKeys := false, apart := false, narrowed := true }
def FnExactWeylDimensionUptoSaid : Prop := fnExactWeylDimensionUptoRow.holds Try.pinned (OpenSpec.upto fnExactWeylDimensionSpec)

/-- 'laws.FnExactDominantBelow', WHERE WHAT IT READS IS OF BULK AT MOST 1048576: true; the input reads as it did. -/
def fnExactDominantBelowUptoRow : OpenClaim := { program := "ytkgjecabigdnoaa", sum := "1f129d7f9c35a7a8f309b26e508f87eda12d14247912129a61e4406455dec758", func := "loop.example/g02076/laws.FnExactDominantBelow", spec := "fnExactDominantBelow", unfollowed := true, recurses := true, plainKeys := false, apart := false, narrowed := true }
def FnExactDominantBelowUptoSaid : Prop := fnExactDominantBelowUptoRow.holds Try.pinned (OpenSpec.upto fnExactDominantBelowSpec)

end Rows
end Go.Proofs.Ytkgjecabigdnoaa
