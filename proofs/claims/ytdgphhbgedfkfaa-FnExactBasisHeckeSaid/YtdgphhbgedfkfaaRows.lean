/-
  No cell of these rows narrows 'for every input' (looked for: loops, veiled, ifaces, maps, wideKeys, modest, calm, conditions, laid).
  DERIVED. THE GIVEN ROWS OF THIS SEAT. 12 by the template 'for every input the law returns true; each argument reads behind the call as it read before'; 0 by the template 'total and deterministic' (their statements: YtdgphhbgedfkfaaTotals.lean).
  GIVEN WITH THE SEED: the statements are not yours to turn. If you find one false, say at which input.
  Laid BY PROGRAM, IN A SANDBOX (cutbox-rows.mjs): the forced cells as the released guide's own fill.sh prints them over the translation ca5ca8fa73bd70a3… (all of the seat's roots in one cut). By AI agents, Wed Nov 11 2026. No macro, syntax, notation, axiom, sorry.
-/
import Derived.Test.YtdgphhbgedfkfaaChecked
import GoSem.Claim
import GoSem.ClaimJoined
import GoSem.ClaimMapViews
import Derived.JoinedTies
import Derived.KernelRfl
namespace Go.Proofs.Ytdgphhbgedfkfaa
/- THE CELL 'sum', in the pinned program and in every row, IS THE sha256 OF THE DUMP (.gsa) THAT YtdgphhbgedfkfaaProg.lean LOADS. Nothing in Lean hashes anything: it is a label: what it is worth is what the hold of that sum in a sandbox is worth. -/
noncomputable def Try.pinned : Pinned := { name := "ytdgphhbgedfkfaa", sum := "ca5ca8fa73bd70a337ef90992e4c983be70e455e783149f2675b673b72184b82", checked := Try.checked }
namespace Rows
def none {H : Type} : Left H := { results := [], args := [] }

/-- 'laws.FnExactPairingOf': WHATEVER THE INPUT: true; the input reads as it did. -/
def fnExactPairingOfSpec : ChangeSpec := { name := "fnExactPairingOf", fn := fun _ => fun
  | [d1, d2] => { results := [.lit (.bool true)], args := [d1, d2] }
  | _ => none }
def fnExactPairingOfRow : OpenClaim := { program := "ytdgphhbgedfkfaa", sum := "ca5ca8fa73bd70a337ef90992e4c983be70e455e783149f2675b673b72184b82", func := "loop.example/g02076/laws.FnExactPairingOf", spec := "fnExactPairingOf", apart := false }
def FnExactPairingOfSaid : Prop := fnExactPairingOfRow.holds Try.pinned (OpenSpec.ofChange fnExactPairingOfSpec)

/-- ITS FALSE NEIGHBOUR: 'it returns false'. Refute it at one input. -/
def fnExactPairingOfWrong : ChangeSpec := { name := "fnExactPairingOf", fn := fun _ => fun
  | [d1, d2] => { results := [.lit (.bool false)], args := [d1, d2] }
  | _ => none }
def FnExactPairingOfWrongFalsely : Prop := fnExactPairingOfRow.holds Try.pinned (OpenSpec.ofChange fnExactPairingOfWrong)

/-- 'laws.FnExactIsDominant': WHATEVER THE INPUT: true; the input reads as it did. -/
def fnExactIsDominantSpec : ChangeSpec := { name := "fnExactIsDominant", fn := fun _ => fun
  | [d] => { results := [.lit (.bool true)], args := [d] }
  | _ => none }
def fnExactIsDominantRow : OpenClaim := { program := "ytdgphhbgedfkfaa", sum := "ca5ca8fa73bd70a337ef90992e4c983be70e455e783149f2675b673b72184b82", func := "loop.example/g02076/laws.FnExactIsDominant", spec := "fnExactIsDominant", apart := false }
def FnExactIsDominantSaid : Prop := fnExactIsDominantRow.holds Try.pinned (OpenSpec.ofChange fnExactIsDominantSpec)

/-- ITS FALSE NEIGHBOUR: 'it returns false'. Refute it at one input. -/
def fnExactIsDominantWrong : ChangeSpec := { name := "fnExactIsDominant", fn := fun _ => fun
  | [d] => { results := [.lit (.bool false)], args := [d] }
  | _ => none }
def FnExactIsDominantWrongFalsely : Prop := fnExactIsDominantRow.holds Try.pinned (OpenSpec.ofChange fnExactIsDominantWrong)

/-- 'laws.FnExactSizeOfCharacter': WHATEVER THE INPUT: true; the input reads as it did. -/
def fnExactSizeOfCharacterSpec : ChangeSpec := { name := "fnExactSizeOfCharacter", fn := fun _ => fun
  | [d] => { results := [.lit (.bool true)], args := [d] }
  | _ => none }
def fnExactSizeOfCharacterRow : OpenClaim := { program := "ytdgphhbgedfkfaa", sum := "ca5ca8fa73bd70a337ef90992e4c983be70e455e783149f2675b673b72184b82", func := "loop.example/g02076/laws.FnExactSizeOfCharacter", spec := "fnExactSizeOfCharacter", apart := false }
def FnExactSizeOfCharacterSaid : Prop := fnExactSizeOfCharacterRow.holds Try.pinned (OpenSpec.ofChange fnExactSizeOfCharacterSpec)

/-- ITS FALSE NEIGHBOUR: 'it returns false'. Refute it at one input. -/
def fnExactSizeOfCharacterWrong : ChangeSpec := { name := "fnExactSizeOfCharacter", fn := fun _ => fun
  | [d] => { results := [.lit (.bool false)], args := [d] }
  | _ => none }
def FnExactSizeOfCharacterWrongFalsely : Prop := fnExactSizeOfCharacterRow.holds Try.pinned (OpenSpec.ofChange fnExactSizeOfCharacterWrong)

/-- 'laws.FnExactCellOf': WHATEVER THE INPUT: true; the input reads as it did. -/
def fnExactCellOfSpec : ChangeSpec := { name := "fnExactCellOf", fn := fun _ => fun
  | [d1, d2] => { results := [.lit (.bool true)], args := [d1, d2] }
  | _ => none }
def fnExactCellOfRow : OpenClaim := { program := "ytdgphhbgedfkfaa", sum := "ca5ca8fa73bd70a337ef90992e4c983be70e455e783149f2675b673b72184b82", func := "loop.example/g02076/laws.FnExactCellOf", spec := "fnExactCellOf", unfollowed := true, recurses := true, apart := false }
def FnExactCellOfSaid : Prop := fnExactCellOfRow.holds Try.pinned (OpenSpec.ofChange fnExactCellOfSpec)

/-- ITS FALSE NEIGHBOUR: 'it returns false'. Refute it at one input. -/
def fnExactCellOfWrong : ChangeSpec := { name := "fnExactCellOf", fn := fun _ => fun
  | [d1, d2] => { results := [.lit (.bool false)], args := [d1, d2] }
  | _ => none }
def FnExactCellOfWrongFalsely : Prop := fnExactCellOfRow.holds Try.pinned (OpenSpec.ofChange fnExactCellOfWrong)

/-- 'laws.FnExactCountIn': WHATEVER THE INPUT: true; the input reads as it did. -/
def fnExactCountInSpec : ChangeSpec := { name := "fnExactCountIn", fn := fun _ => fun
  | [d1, d2] => { results := [.lit (.bool true)], args := [d1, d2] }
  | _ => none }
def fnExactCountInRow : OpenClaim := { program := "ytdgphhbgedfkfaa", sum := "ca5ca8fa73bd70a337ef90992e4c983be70e455e783149f2675b673b72184b82", func := "loop.example/g02076/laws.FnExactCountIn", spec := "fnExactCountIn", apart := false }
def FnExactCountInSaid : Prop := fnExactCountInRow.holds Try.pinned (OpenSpec.ofChange fnExactCountInSpec)

/-- ITS FALSE NEIGHBOUR: 'it returns false'. Refute it at one input. -/
def fnExactCountInWrong : ChangeSpec := { name := "fnExactCountIn", fn := fun _ => fun
  | [d1, d2] => { results := [.lit (.bool false)], args := [d1, d2] }
  | _ => none }
def FnExactCountInWrongFalsely : Prop := fnExactCountInRow.holds Try.pinned (OpenSpec.ofChange fnExactCountInWrong)

/-- 'laws.FnExactEqualCharacters': WHATEVER THE INPUT: true; the input reads as it did. -/
def fnExactEqualCharactersSpec : ChangeSpec := { name := "fnExactEqualCharacters", fn := fun _ => fun
  | [d1, d2] => { results := [.lit (.bool true)], args := [d1, d2] }
  | _ => none }
def fnExactEqualCharactersRow : OpenClaim := { program := "ytdgphhbgedfkfaa", sum := "ca5ca8fa73bd70a337ef90992e4c983be70e455e783149f2675b673b72184b82", func := "loop.example/g02076/laws.FnExactEqualCharacters", spec := "fnExactEqualCharacters", unfollowed := true, recurses := true, apart := false }
def FnExactEqualCharactersSaid : Prop := fnExactEqualCharactersRow.holds Try.pinned (OpenSpec.ofChange fnExactEqualCharactersSpec)

/-- ITS FALSE NEIGHBOUR: 'it returns false'. Refute it at one input. -/
def fnExactEqualCharactersWrong : ChangeSpec := { name := "fnExactEqualCharacters", fn := fun _ => fun
  | [d1, d2] => { results := [.lit (.bool false)], args := [d1, d2] }
  | _ => none }
def FnExactEqualCharactersWrongFalsely : Prop := fnExactEqualCharactersRow.holds Try.pinned (OpenSpec.ofChange fnExactEqualCharactersWrong)

/-- 'laws.FnExactEqualHecke': WHATEVER THE INPUT: true; the input reads as it did. -/
def fnExactEqualHeckeSpec : ChangeSpec := { name := "fnExactEqualHecke", fn := fun _ => fun
  | [d1, d2] => { results := [.lit (.bool true)], args := [d1, d2] }
  | _ => none }
def fnExactEqualHeckeRow : OpenClaim := { program := "ytdgphhbgedfkfaa", sum := "ca5ca8fa73bd70a337ef90992e4c983be70e455e783149f2675b673b72184b82", func := "loop.example/g02076/laws.FnExactEqualHecke", spec := "fnExactEqualHecke", unfollowed := true, recurses := true, apart := false }
def FnExactEqualHeckeSaid : Prop := fnExactEqualHeckeRow.holds Try.pinned (OpenSpec.ofChange fnExactEqualHeckeSpec)

/-- ITS FALSE NEIGHBOUR: 'it returns false'. Refute it at one input. -/
def fnExactEqualHeckeWrong : ChangeSpec := { name := "fnExactEqualHecke", fn := fun _ => fun
  | [d1, d2] => { results := [.lit (.bool false)], args := [d1, d2] }
  | _ => none }
def FnExactEqualHeckeWrongFalsely : Prop := fnExactEqualHeckeRow.holds Try.pinned (OpenSpec.ofChange fnExactEqualHeckeWrong)

/-- 'laws.FnExactCoefficientOf': WHATEVER THE INPUT: true; the input reads as it did. -/
def fnExactCoefficientOfSpec : ChangeSpec := { name := "fnExactCoefficientOf", fn := fun _ => fun
  | [d1, d2] => { results := [.lit (.bool true)], args := [d1, d2] }
  | _ => none }
def fnExactCoefficientOfRow : OpenClaim := { program := "ytdgphhbgedfkfaa", sum := "ca5ca8fa73bd70a337ef90992e4c983be70e455e783149f2675b673b72184b82", func := "loop.example/g02076/laws.FnExactCoefficientOf", spec := "fnExactCoefficientOf", apart := false }
def FnExactCoefficientOfSaid : Prop := fnExactCoefficientOfRow.holds Try.pinned (OpenSpec.ofChange fnExactCoefficientOfSpec)

/-- ITS FALSE NEIGHBOUR: 'it returns false'. Refute it at one input. -/
def fnExactCoefficientOfWrong : ChangeSpec := { name := "fnExactCoefficientOf", fn := fun _ => fun
  | [d1, d2] => { results := [.lit (.bool false)], args := [d1, d2] }
  | _ => none }
def FnExactCoefficientOfWrongFalsely : Prop := fnExactCoefficientOfRow.holds Try.pinned (OpenSpec.ofChange fnExactCoefficientOfWrong)

/-- 'laws.FnExactTraceOf': WHATEVER THE INPUT: true; the input reads as it did. -/
def fnExactTraceOfSpec : ChangeSpec := { name := "fnExactTraceOf", fn := fun _ => fun
  | [d] => { results := [.lit (.bool true)], args := [d] }
  | _ => none }
def fnExactTraceOfRow : OpenClaim := { program := "ytdgphhbgedfkfaa", sum := "ca5ca8fa73bd70a337ef90992e4c983be70e455e783149f2675b673b72184b82", func := "loop.example/g02076/laws.FnExactTraceOf", spec := "fnExactTraceOf", apart := false }
def FnExactTraceOfSaid : Prop := fnExactTraceOfRow.holds Try.pinned (OpenSpec.ofChange fnExactTraceOfSpec)

/-- ITS FALSE NEIGHBOUR: 'it returns false'. Refute it at one input. -/
def fnExactTraceOfWrong : ChangeSpec := { name := "fnExactTraceOf", fn := fun _ => fun
  | [d] => { results := [.lit (.bool false)], args := [d] }
  | _ => none }
def FnExactTraceOfWrongFalsely : Prop := fnExactTraceOfRow.holds Try.pinned (OpenSpec.ofChange fnExactTraceOfWrong)

/-- 'laws.FnExactStabilizerOf': WHATEVER THE INPUT: true; the input reads as it did. -/
def fnExactStabilizerOfSpec : ChangeSpec := { name := "fnExactStabilizerOf", fn := fun _ => fun
  | [d1, d2] => { results := [.lit (.bool true)], args := [d1, d2] }
  | _ => none }
def fnExactStabilizerOfRow : OpenClaim := { program := "ytdgphhbgedfkfaa", sum := "ca5ca8fa73bd70a337ef90992e4c983be70e455e783149f2675b673b72184b82", func := "loop.example/g02076/laws.FnExactStabilizerOf", spec := "fnExactStabilizerOf", apart := false }
def FnExactStabilizerOfSaid : Prop := fnExactStabilizerOfRow.holds Try.pinned (OpenSpec.ofChange fnExactStabilizerOfSpec)

/-- ITS FALSE NEIGHBOUR: 'it returns false'. Refute it at one input. -/
def fnExactStabilizerOfWrong : ChangeSpec := { name := "fnExactStabilizerOf", fn := fun _ => fun
  | [d1, d2] => { results := [.lit (.bool false)], args := [d1, d2] }
  | _ => none }
def FnExactStabilizerOfWrongFalsely : Prop := fnExactStabilizerOfRow.holds Try.pinned (OpenSpec.ofChange fnExactStabilizerOfWrong)

/-- 'laws.FnExactDotAction': WHATEVER THE INPUT: true; the input reads as it did. -/
def fnExactDotActionSpec : ChangeSpec := { name := "fnExactDotAction", fn := fun _ => fun
  | [d1, d2, d3] => { results := [.lit (.bool true)], args := [d1, d2, d3] }
  | _ => none }
def fnExactDotActionRow : OpenClaim := { program := "ytdgphhbgedfkfaa", sum := "ca5ca8fa73bd70a337ef90992e4c983be70e455e783149f2675b673b72184b82", func := "loop.example/g02076/laws.FnExactDotAction", spec := "fnExactDotAction", apart := false }
def FnExactDotActionSaid : Prop := fnExactDotActionRow.holds Try.pinned (OpenSpec.ofChange fnExactDotActionSpec)

/-- ITS FALSE NEIGHBOUR: 'it returns false'. Refute it at one input. -/
def fnExactDotActionWrong : ChangeSpec := { name := "fnExactDotAction", fn := fun _ => fun
  | [d1, d2, d3] => { results := [.lit (.bool false)], args := [d1, d2, d3] }
  | _ => none }
def FnExactDotActionWrongFalsely : Prop := fnExactDotActionRow.holds Try.pinned (OpenSpec.ofChange fnExactDotActionWrong)

/-- 'laws.FnExactBasisHecke': WHATEVER THE INPUT: true; the input reads as it did. -/
def fnExactBasisHeckeSpec : ChangeSpec := { name := "fnExactBasisHecke", fn := fun _ => fun
  | [d1, d2] => { results := [.lit (.bool true)], args := [d1, d2] }
  | _ => none }
def fnExactBasisHeckeRow : OpenClaim := { program := "ytdgphhbgedfkfaa", sum := "ca5ca8fa73bd70a337ef90992e4c983be70e455e783149f2675b673b72184b82", func := "loop.example/g02076/laws.FnExactBasisHecke", spec := "fnExactBasisHecke", apart := false }
def FnExactBasisHeckeSaid : Prop := fnExactBasisHeckeRow.holds Try.pinned (OpenSpec.ofChange fnExactBasisHeckeSpec)

/-- ITS FALSE NEIGHBOUR: 'it returns false'. Refute it at one input. -/
def fnExactBasisHeckeWrong : ChangeSpec := { name := "fnExactBasisHecke", fn := fun _ => fun
  | [d1, d2] => { results := [.lit (.bool false)], args := [d1, d2] }
  | _ => none }
def FnExactBasisHeckeWrongFalsely : Prop := fnExactBasisHeckeRow.holds Try.pinned (OpenSpec.ofChange fnExactBasisHeckeWrong)

/- THE SECOND FORM. 'bulk': how many values and letters a reading holds, each counted each time it is reached (what is shared counts as often as it is met; a slice's spare places count too). A statement '..UptoSaid' is the law's where the arguments, and the package variables that the reading takes, are together of bulk at most 1048576: NARROWER than '..Said'. Prove '..Said' where nothing that the law and all that it calls make is longer than what came in: it says more and counts as full. Else prove '..UptoSaid'. A law counts once. -/
mutual
def uptoBulk {H : Type} : DataW H → Nat
  | .lit (.string bytes) => bytes.length + 1
  | .lit _ => 1
  | .nil => 1
  | .ptr d => uptoBulk d + 1
  | .slice elems spare => uptoBulkAll elems + uptoBulkAll spare + 1
  | .agg parts => uptoBulkAll parts + 1
  | .iface _ d => uptoBulk d + 1
  | .map entries => uptoBulkEntries entries + 1
  | .held _ => 1
def uptoBulkAll {H : Type} : List (DataW H) → Nat
  | [] => 0
  | d :: r => uptoBulk d + uptoBulkAll r
def uptoBulkEntries {H : Type} : List (Lit × DataW H) → Nat
  | [] => 0
  | x :: r => uptoBulkEntry x + uptoBulkEntries r
def uptoBulkEntry {H : Type} : Lit × DataW H → Nat
  | (.string bytes, d) => bytes.length + uptoBulk d + 1
  | (_, d) => uptoBulk d + 1
 end
def uptoSmall : (H : Type) → List (DataW H) → Bool := fun _ ds => decide (uptoBulkAll ds ≤ 1048576)
def OpenSpec.upto (s : _root_.Go.ChangeSpec) : _root_.Go.OpenSpec := { _root_.Go.OpenSpec.ofChange s with cond := some uptoSmall }

/-- 'laws.FnExactPairingOf', WHERE WHAT IT READS IS OF BULK AT MOST 1048576: true; the input reads as it did. -/
def fnExactPairingOfUptoRow : OpenClaim := { program := "ytdgphhbgedfkfaa", sum := "ca5ca8fa73bd70a337ef90992e4c983be70e455e783149f2675b673b72184b82", func := "loop.example/g02076/laws.FnExactPairingOf", spec := "fnExactPairingOf", apart := false, narrowed := true }
def FnExactPairingOfUptoSaid : Prop := fnExactPairingOfUptoRow.holds Try.pinned (OpenSpec.upto fnExactPairingOfSpec)

/-- 'laws.FnExactIsDominant', WHERE WHAT IT READS IS OF BULK AT MOST 1048576: true; the input reads as it did. -/
def fnExactIsDominantUptoRow : OpenClaim := { program := "ytdgphhbgedfkfaa", sum := "ca5ca8fa73bd70a337ef90992e4c983be70e455e783149f2675b673b72184b82", func := "loop.example/g02076/laws.FnExactIsDominant", spec := "fnExactIsDominant", apart := false, narrowed := true }
def FnExactIsDominantUptoSaid : Prop := fnExactIsDominantUptoRow.holds Try.pinned (OpenSpec.upto fnExactIsDominantSpec)

/-- 'laws.FnExactSizeOfCharacter', WHERE WHAT IT READS IS OF BULK AT MOST 1048576: true; the input reads as it did. -/
def fnExactSizeOfCharacterUptoRow : OpenClaim := { program := "ytdgphhbgedfkfaa", sum := "ca5ca8fa73bd70a337ef90992e4c983be70e455e783149f2675b673b72184b82", func := "loop.example/g02076/laws.FnExactSizeOfCharacter", spec := "fnExactSizeOfCharacter", apart := false, narrowed := true }
def FnExactSizeOfCharacterUptoSaid : Prop := fnExactSizeOfCharacterUptoRow.holds Try.pinned (OpenSpec.upto fnExactSizeOfCharacterSpec)

/-- 'laws.FnExactCellOf', WHERE WHAT IT READS IS OF BULK AT MOST 1048576: true; the input reads as it did. -/
def fnExactCellOfUptoRow : OpenClaim := { program := "ytdgphhbgedfkfaa", sum := "ca5ca8fa73bd70a337ef90992e4c983be70e455e783149f2675b673b72184b82", func := "loop.example/g02076/laws.FnExactCellOf", spec := "fnExactCellOf", unfollowed := true, recurses := true, apart := false, narrowed := true }
def FnExactCellOfUptoSaid : Prop := fnExactCellOfUptoRow.holds Try.pinned (OpenSpec.upto fnExactCellOfSpec)

/-- 'laws.FnExactCountIn', WHERE WHAT IT READS IS OF BULK AT MOST 1048576: true; the input reads as it did. -/
def fnExactCountInUptoRow : OpenClaim := { program := "ytdgphhbgedfkfaa", sum := "ca5ca8fa73bd70a337ef90992e4c983be70e455e783149f2675b673b72184b82", func := "loop.example/g02076/laws.FnExactCountIn", spec := "fnExactCountIn", apart := false, narrowed := true }
def FnExactCountInUptoSaid : Prop := fnExactCountInUptoRow.holds Try.pinned (OpenSpec.upto fnExactCountInSpec)

/-- 'laws.FnExactEqualCharacters', WHERE WHAT IT READS IS OF BULK AT MOST 1048576: true; the input reads as it did. -/
def fnExactEqualCharactersUptoRow : OpenClaim := { program := "ytdgphhbgedfkfaa", sum := "ca5ca8fa73bd70a337ef90992e4c983be70e455e783149f2675b673b72184b82", func := "loop.example/g02076/laws.FnExactEqualCharacters", spec := "fnExactEqualCharacters", unfollowed := true, recurses := true, apart := false, narrowed := true }
def FnExactEqualCharactersUptoSaid : Prop := fnExactEqualCharactersUptoRow.holds Try.pinned (OpenSpec.upto fnExactEqualCharactersSpec)

/-- 'laws.FnExactEqualHecke', WHERE WHAT IT READS IS OF BULK AT MOST 1048576: true; the input reads as it did. -/
def fnExactEqualHeckeUptoRow : OpenClaim := { program := "ytdgphhbgedfkfaa", sum := "ca5ca8fa73bd70a337ef90992e4c983be70e455e783149f2675b673b72184b82", func := "loop.example/g02076/laws.FnExactEqualHecke", spec := "fnExactEqualHecke", unfollowed := true, recurses := true, apart := false, narrowed := true }
def FnExactEqualHeckeUptoSaid : Prop := fnExactEqualHeckeUptoRow.holds Try.pinned (OpenSpec.upto fnExactEqualHeckeSpec)

/-- 'laws.FnExactCoefficientOf', WHERE WHAT IT READS IS OF BULK AT MOST 1048576: true; the input reads as it did. -/
def fnExactCoefficientOfUptoRow : OpenClaim := { program := "ytdgphhbgedfkfaa", sum := "ca5ca8fa73bd70a337ef90992e4c983be70e455e783149f2675b673b72184b82", func := "loop.example/g02076/laws.FnExactCoefficientOf", spec := "fnExactCoefficientOf", apart := false, narrowed := true }
def FnExactCoefficientOfUptoSaid : Prop := fnExactCoefficientOfUptoRow.holds Try.pinned (OpenSpec.upto fnExactCoefficientOfSpec)

/-- 'laws.FnExactTraceOf', WHERE WHAT IT READS IS OF BULK AT MOST 1048576: true; the input reads as it did. -/
def fnExactTraceOfUptoRow : OpenClaim := { program := "ytdgphhbgedfkfaa", sum := "ca5ca8fa73bd70a337ef90992e4c983be70e455e783149f2675b673b72184b82", func := "loop.example/g02076/laws.FnExactTraceOf", spec := "fnExactTraceOf", apart := false, narrowed := true }
def FnExactTraceOfUptoSaid : Prop := fnExactTraceOfUptoRow.holds Try.pinned (OpenSpec.upto fnExactTraceOfSpec)

/-- 'laws.FnExactStabilizerOf', WHERE WHAT IT READS IS OF BULK AT MOST 1048576: true; the input reads as it did. -/
def fnExactStabilizerOfUptoRow : OpenClaim := { program := "ytdgphhbgedfkfaa", sum := "ca5ca8fa73bd70a337ef90992e4c983be70e455e783149f2675b673b72184b82", func := "loop.example/g02076/laws.FnExactStabilizerOf", spec := "fnExactStabilizerOf", apart := false, narrowed := true }
def FnExactStabilizerOfUptoSaid : Prop := fnExactStabilizerOfUptoRow.holds Try.pinned (OpenSpec.upto fnExactStabilizerOfSpec)

/-- 'laws.FnExactDotAction', WHERE WHAT IT READS IS OF BULK AT MOST 1048576: true; the input reads as it did. -/
def fnExactDotActionUptoRow : OpenClaim := { program := "ytdgphhbgedfkfaa", sum := "ca5ca8fa73bd70a337ef90992e4c983be70e455e783149f2675b673b72184b82", func := "loop.example/g02076/laws.FnExactDotAction", spec := "fnExactDotAction", apart := false, narrowed := true }
def FnExactDotActionUptoSaid : Prop := fnExactDotActionUptoRow.holds Try.pinned (OpenSpec.upto fnExactDotActionSpec)

/-- 'laws.FnExactBasisHecke', WHERE WHAT IT READS IS OF BULK AT MOST 1048576: true; the input reads as it did. -/
def fnExactBasisHeckeUptoRow : OpenClaim := { program := "ytdgphhbgedfkfaa", sum := "ca5ca8fa73bd70a337ef90992e4c983be70e455e783149f2675b673b72184b82", func := "loop.example/g02076/laws.FnExactBasisHecke", spec := "fnExactBasisHecke", apart := false, narrowed := true }
def FnExactBasisHeckeUptoSaid : Prop := fnExactBasisHeckeUptoRow.holds Try.pinned (OpenSpec.upto fnExactBasisHeckeSpec)

end Rows
end Go.Proofs.Ytdgphhbgedfkfaa
