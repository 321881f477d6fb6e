/- The laws' own helpers over terms: pairs of lists of numbers. Condition: sizes up to 2^24. -/
import Derived.Test.YtlgcdacpjcnjgaaGreatDoorJGOp
import Derived.StillTailTactics
namespace Go.Proofs.YtlgcdacpjcnjgaaGreatDoor
open Go.RowKit
set_option maxRecDepth 20000
abbrev Trm:=List Int × List Int
def zSu (w:World) (r r':Value) (x:Trm):Prop:=RI0 w r x.1∧RI0 w r' x.2
abbrev RT0:=RL2 none Any zSu
theorem RT0.below {w w':World} {v:Value} {L:List Trm} (h:RT0 w v L) (hb:Below w.heap.size w w'):RT0 w' v L :=
 RL2.keep h (fun b _ hl=>hb.block b hl) (fun _ _ _ h=>⟨RI0.below h.1 hb,RI0.below h.2 hb⟩)
theorem zLt.plain {w:World} {v:Value} {L:List Trm} (h:RL2 none Any zLt w v L):RT0 w v L:=RL2.mono h (fun _ h=>h) (fun _ _ _ h=>⟨RIW.plain h.1,RIW.plain h.2⟩)
end Go.Proofs.YtlgcdacpjcnjgaaGreatDoor
