/-
  No cell of these rows narrows 'for every input' (looked for: loops, veiled, ifaces, maps, wideKeys, modest, calm, conditions, laid).
  DERIVED. THE GIVEN ROWS OF THIS SEAT. 4 by the template 'for every input the law returns true; each argument reads behind the call as it read before'; 0 by the template 'total and deterministic' (their statements: YtfpjojlkodglnaaTotals.lean).
  GIVEN WITH THE SEED: the statements are not yours to turn. If you find one false, say at which input.
  Laid BY PROGRAM, IN A SANDBOX (cutbox-rows.mjs): the forced cells as the released guide's own fill.sh prints them over the translation 0867dcd2ab8191b1… (all of the seat's roots in one cut). By AI agents, Wed Nov 11 2026. No macro, syntax, notation, axiom, sorry.
-/
import Derived.Test.YtfpjojlkodglnaaChecked
import GoSem.Claim
import GoSem.ClaimJoined
import GoSem.ClaimMapViews
import Derived.JoinedTies
import Derived.KernelRfl
namespace Go.Proofs.Ytfpjojlkodglnaa
/- THE CELL 'sum', in the pinned program and in every row, IS THE sha256 OF THE DUMP (.gsa) THAT YtfpjojlkodglnaaProg.lean LOADS. Nothing in Lean hashes anything: it is a label: what it is worth is what the hold of that sum in a sandbox is worth. -/
noncomputable def Try.pinned : Pinned := { name := "ytfpjojlkodglnaa", sum := "0867dcd2ab8191b1075fa1aed0fe285c7a80aca0663f028b03bd475f666a6d04", checked := Try.checked }
namespace Rows
def none {H : Type} : Left H := { results := [], args := [] }

/-- 'laws.FnExactScaleHecke': WHATEVER THE INPUT: true; the input reads as it did. -/
def fnExactScaleHeckeSpec : ChangeSpec := { name := "fnExactScaleHecke", fn := fun _ => fun
  | [d1, d2, d3] => { results := [.lit (.bool true)], args := [d1, d2, d3] }
  | _ => none }
def fnExactScaleHeckeRow : OpenClaim := { program := "ytfpjojlkodglnaa", sum := "0867dcd2ab8191b1075fa1aed0fe285c7a80aca0663f028b03bd475f666a6d04", func := "loop.example/g02076/laws.FnExactScaleHecke", spec := "fnExactScaleHecke", unfollowed := true, recurses := true, apart := false }
def FnExactScaleHeckeSaid : Prop := fnExactScaleHeckeRow.holds Try.pinned (OpenSpec.ofChange fnExactScaleHeckeSpec)

/-- ITS FALSE NEIGHBOUR: 'it returns false'. Refute it at one input. -/
def fnExactScaleHeckeWrong : ChangeSpec := { name := "fnExactScaleHecke", fn := fun _ => fun
  | [d1, d2, d3] => { results := [.lit (.bool false)], args := [d1, d2, d3] }
  | _ => none }
def FnExactScaleHeckeWrongFalsely : Prop := fnExactScaleHeckeRow.holds Try.pinned (OpenSpec.ofChange fnExactScaleHeckeWrong)

/-- 'laws.FnExactAddHecke': WHATEVER THE INPUT: true; the input reads as it did. -/
def fnExactAddHeckeSpec : ChangeSpec := { name := "fnExactAddHecke", fn := fun _ => fun
  | [d1, d2, d3] => { results := [.lit (.bool true)], args := [d1, d2, d3] }
  | _ => none }
def fnExactAddHeckeRow : OpenClaim := { program := "ytfpjojlkodglnaa", sum := "0867dcd2ab8191b1075fa1aed0fe285c7a80aca0663f028b03bd475f666a6d04", func := "loop.example/g02076/laws.FnExactAddHecke", spec := "fnExactAddHecke", unfollowed := true, recurses := true, apart := false }
def FnExactAddHeckeSaid : Prop := fnExactAddHeckeRow.holds Try.pinned (OpenSpec.ofChange fnExactAddHeckeSpec)

/-- ITS FALSE NEIGHBOUR: 'it returns false'. Refute it at one input. -/
def fnExactAddHeckeWrong : ChangeSpec := { name := "fnExactAddHecke", fn := fun _ => fun
  | [d1, d2, d3] => { results := [.lit (.bool false)], args := [d1, d2, d3] }
  | _ => none }
def FnExactAddHeckeWrongFalsely : Prop := fnExactAddHeckeRow.holds Try.pinned (OpenSpec.ofChange fnExactAddHeckeWrong)

/-- 'laws.FnExactMulLetter': WHATEVER THE INPUT: true; the input reads as it did. -/
def fnExactMulLetterSpec : ChangeSpec := { name := "fnExactMulLetter", fn := fun _ => fun
  | [d1, d2, d3] => { results := [.lit (.bool true)], args := [d1, d2, d3] }
  | _ => none }
def fnExactMulLetterRow : OpenClaim := { program := "ytfpjojlkodglnaa", sum := "0867dcd2ab8191b1075fa1aed0fe285c7a80aca0663f028b03bd475f666a6d04", func := "loop.example/g02076/laws.FnExactMulLetter", spec := "fnExactMulLetter", unfollowed := true, recurses := true, apart := false }
def FnExactMulLetterSaid : Prop := fnExactMulLetterRow.holds Try.pinned (OpenSpec.ofChange fnExactMulLetterSpec)

/-- ITS FALSE NEIGHBOUR: 'it returns false'. Refute it at one input. -/
def fnExactMulLetterWrong : ChangeSpec := { name := "fnExactMulLetter", fn := fun _ => fun
  | [d1, d2, d3] => { results := [.lit (.bool false)], args := [d1, d2, d3] }
  | _ => none }
def FnExactMulLetterWrongFalsely : Prop := fnExactMulLetterRow.holds Try.pinned (OpenSpec.ofChange fnExactMulLetterWrong)

/-- 'laws.FnExactMulHecke': WHATEVER THE INPUT: true; the input reads as it did. -/
def fnExactMulHeckeSpec : ChangeSpec := { name := "fnExactMulHecke", fn := fun _ => fun
  | [d1, d2, d3] => { results := [.lit (.bool true)], args := [d1, d2, d3] }
  | _ => none }
def fnExactMulHeckeRow : OpenClaim := { program := "ytfpjojlkodglnaa", sum := "0867dcd2ab8191b1075fa1aed0fe285c7a80aca0663f028b03bd475f666a6d04", func := "loop.example/g02076/laws.FnExactMulHecke", spec := "fnExactMulHecke", unfollowed := true, recurses := true, apart := false }
def FnExactMulHeckeSaid : Prop := fnExactMulHeckeRow.holds Try.pinned (OpenSpec.ofChange fnExactMulHeckeSpec)

/-- ITS FALSE NEIGHBOUR: 'it returns false'. Refute it at one input. -/
def fnExactMulHeckeWrong : ChangeSpec := { name := "fnExactMulHecke", fn := fun _ => fun
  | [d1, d2, d3] => { results := [.lit (.bool false)], args := [d1, d2, d3] }
  | _ => none }
def FnExactMulHeckeWrongFalsely : Prop := fnExactMulHeckeRow.holds Try.pinned (OpenSpec.ofChange fnExactMulHeckeWrong)

/- THE SECOND FORM. 'bulk': how many values and letters a reading holds, each counted each time it is reached (what is shared counts as often as it is met; a slice's spare places count too). A statement '..UptoSaid' is the law's where the arguments, and the package variables that the reading takes, are together of bulk at most 1048576: NARROWER than '..Said'. Prove '..Said' where nothing that the law and all that it calls make is longer than what came in: it says more and counts as full. Else prove '..UptoSaid'. A law counts once. -/
mutual
def uptoBulk {H : Type} : DataW H → Nat
  | .lit (.string bytes) => bytes.length + 1
  | .lit _ => 1
  | .nil => 1
  | .ptr d => uptoBulk d + 1
  | .slice elems spare => uptoBulkAll elems + uptoBulkAll spare + 1
  | .agg parts => uptoBulkAll parts + 1
  | .iface _ d => uptoBulk d + 1
  | .map entries => uptoBulkEntries entries + 1
  | .held _ => 1
def uptoBulkAll {H : Type} : List (DataW H) → Nat
  | [] => 0
  | d :: r => uptoBulk d + uptoBulkAll r
def uptoBulkEntries {H : Type} : List (Lit × DataW H) → Nat
  | [] => 0
  | x :: r => uptoBulkEntry x + uptoBulkEntries r
def uptoBulkEntry {H : Type} : Lit × DataW H → Nat
  | (.string bytes, d) => bytes.length + uptoBulk d + 1
  | (_, d) => uptoBulk d + 1
 end
def uptoSmall : (H : Type) → List (DataW H) → Bool := fun _ ds => decide (uptoBulkAll ds ≤ 1048576)
def OpenSpec.upto (s : _root_.Go.ChangeSpec) : _root_.Go.OpenSpec := { _root_.Go.OpenSpec.ofChange s with cond := some uptoSmall }

/-- 'laws.FnExactScaleHecke', WHERE WHAT IT READS IS OF BULK AT MOST 1048576: true; the input reads as it did. -/
def fnExactScaleHeckeUptoRow : OpenClaim := { program := "ytfpjojlkodglnaa", sum := "0867dcd2ab8191b1075fa1aed0fe285c7a80aca0663f028b03bd475f666a6d04", func := "loop.example/g02076/laws.FnExactScaleHecke", spec := "fnExactScaleHecke", unfollowed := true, recurses := true, apart := false, narrowed := true }
def FnExactScaleHeckeUptoSaid : Prop := fnExactScaleHeckeUptoRow.holds Try.pinned (OpenSpec.upto fnExactScaleHeckeSpec)

/-- 'laws.FnExactAddHecke', WHERE WHAT IT READS IS OF BULK AT MOST 1048576: true; the input reads as it did. -/
def fnExactAddHeckeUptoRow : OpenClaim := { program := "ytfpjojlkodglnaa", sum := "0867dcd2ab8191b1075fa1aed0fe285c7a80aca0663f028b03bd475f666a6d04", func := "loop.example/g02076/laws.FnExactAddHecke", spec := "fnExactAddHecke", unfollowed := true, recurses := true, apart := false, narrowed := true }
def FnExactAddHeckeUptoSaid : Prop := fnExactAddHeckeUptoRow.holds Try.pinned (OpenSpec.upto fnExactAddHeckeSpec)

/-- 'laws.FnExactMulLetter', WHERE WHAT IT READS IS OF BULK AT MOST 1048576: true; the input reads as it did. -/
def fnExactMulLetterUptoRow : OpenClaim := { program := "ytfpjojlkodglnaa", sum := "0867dcd2ab8191b1075fa1aed0fe285c7a80aca0663f028b03bd475f666a6d04", func := "loop.example/g02076/laws.FnExactMulLetter", spec := "fnExactMulLetter", unfollowed := true, recurses := true, apart := false, narrowed := true }
def FnExactMulLetterUptoSaid : Prop := fnExactMulLetterUptoRow.holds Try.pinned (OpenSpec.upto fnExactMulLetterSpec)

/-- 'laws.FnExactMulHecke', WHERE WHAT IT READS IS OF BULK AT MOST 1048576: true; the input reads as it did. -/
def fnExactMulHeckeUptoRow : OpenClaim := { program := "ytfpjojlkodglnaa", sum := "0867dcd2ab8191b1075fa1aed0fe285c7a80aca0663f028b03bd475f666a6d04", func := "loop.example/g02076/laws.FnExactMulHecke", spec := "fnExactMulHecke", unfollowed := true, recurses := true, apart := false, narrowed := true }
def FnExactMulHeckeUptoSaid : Prop := fnExactMulHeckeUptoRow.holds Try.pinned (OpenSpec.upto fnExactMulHeckeSpec)

end Rows
end Go.Proofs.Ytfpjojlkodglnaa
