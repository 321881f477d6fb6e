/- Every block but one: what one block's turning leaves as it was. No condition. -/
import Derived.Test.YtlgcdacpjcnjgaaGreatDoorJGOp
namespace Go.Proofs.YtlgcdacpjcnjgaaGreatDoor
open Go.RowKit
set_option maxRecDepth 20000
abbrev Off (b:Nat):Nat→Prop:=fun g=>g≠b
theorem Off.keepI {mb:Nat} {w w':World} {v:Value} {l:List Int} (h:RI (Off mb) w v l) (hg:w.grownBy w' (some mb)):RI (Off mb) w' v l:=h.keep fun b hb hl=>hg.block b hl (by simpa using hb)
theorem Off.grown {mb:Nat} {w w':World} (h:Below w.heap.size w w'):w.grownBy w' (some mb):=⟨h.os,h.tape,h.output,h.size,fun i hi _=>h.block i hi⟩
theorem Off.tr {mb:Nat} {a b c:World} (h:a.grownBy b (some mb)) (k:b.grownBy c (some mb)):a.grownBy c (some mb) :=
 ⟨k.os.trans h.os,k.tape.trans h.tape,k.output.trans h.output,Nat.le_trans h.size k.size,fun i hi hn=>(k.block i (Nat.lt_of_lt_of_le hi h.size) hn).trans (h.block i hi hn)⟩
theorem Off.drewG {mb:Nat} {a b:World} (h:a.grownBy b (some mb)):a.grownBy b.drew (some mb):=⟨h.os,h.tape,h.output,h.size,h.block⟩
end Go.Proofs.YtlgcdacpjcnjgaaGreatDoor
