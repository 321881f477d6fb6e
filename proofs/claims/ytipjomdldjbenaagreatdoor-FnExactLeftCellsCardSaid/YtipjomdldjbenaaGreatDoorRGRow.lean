/- A row of terms of the call's own, put in order by exchanges. No condition. -/
import Derived.Test.YtipjomdldjbenaaGreatDoorRGMrg
import Derived.Test.YtipjomdldjbenaaGreatDoorRGCart
import Derived.Test.YtipjomdldjbenaaGreatDoorRAppS
import Derived.Test.YtipjomdldjbenaaGreatDoorRGBase
import Derived.Test.YtipjomdldjbenaaGreatDoorRGGt
import Derived.RegionTactic
import Derived.BigRegion
import Derived.Shelf.RegionOpenPlain
namespace Go.Proofs.YtipjomdldjbenaaGreatDoor
open Go.RowKit
set_option maxRecDepth 20000
abbrev Off (b : Nat) : Nat → Prop := fun g => g ≠ b
theorem Off.keepI {mb : Nat} {w w' : World} {v : Value} {l : List Int} (h : RI (Off mb) w v l) (hg : w.grownBy w' (some mb)) : RI (Off mb) w' v l := h.keep fun b hb hl => hg.block b hl (by simpa using hb)
theorem Off.grown {mb : Nat} {w w' : World} (h : Below w.heap.size w w') : w.grownBy w' (some mb) := ⟨h.os, h.tape, h.output, h.size, fun i hi _ => h.block i hi⟩
theorem Off.tr {mb : Nat} {a b c : World} (h : a.grownBy b (some mb)) (k : b.grownBy c (some mb)) : a.grownBy c (some mb) :=
 ⟨k.os.trans h.os, k.tape.trans h.tape, k.output.trans h.output, Nat.le_trans h.size k.size, fun i hi hn => (k.block i (Nat.lt_of_lt_of_le hi h.size) hn).trans (h.block i hi hn)⟩
structure El where
 r : Value
 r' : Value
 x : List Int
 y : List Int
def cellsT : List El → List Value
 | [] => []
 | e :: L => e.r :: e.r' :: cellsT L
theorem cellsT_at : ∀ {L : List El} {j : Nat} {e : El}, L[j]? = some e → (cellsT L)[j * 2]? = some e.r ∧ (cellsT L)[j * 2 + 1]? = some e.r'
 | [], _, _, h => by simp at h
 | a :: L, 0, e, h => by simp at h; subst h; simp [cellsT]
 | a :: L, j + 1, e, h => by
  have := cellsT_at (L := L) (j := j) (by simpa using h)
  rw [show (j + 1) * 2 = j * 2 + 1 + 1 by omega, show j * 2 + 1 + 1 + 1 = (j * 2 + 1) + 1 + 1 by omega]
  simpa [cellsT] using this
theorem cellsT_set : ∀ (L : List El) (j : Nat) (e : El), ((cellsT L).set (j * 2) e.r).set (j * 2 + 1) e.r' = cellsT (L.set j e)
 | [], j, e => by simp [cellsT]
 | a :: L, 0, e => by simp [cellsT]
 | a :: L, j + 1, e => by
  have := cellsT_set L j e
  rw [show (j + 1) * 2 = j * 2 + 1 + 1 by omega, show j * 2 + 1 + 1 + 1 = (j * 2 + 1) + 1 + 1 by omega]
  simpa [cellsT] using this
def RowT (blk N cap : Nat) (W : World) (L : List El) : Prop :=
 L.length = N ∧ W.ownsRow 0 73 2 (.slice (some ⟨blk, 0, none⟩) N cap) N (cellsT L) ∧ ∀ e ∈ L, RI (Off blk) W e.r e.x ∧ RI (Off blk) W e.r' e.y
section
variable {blk N cap : Nat} {W W' : World} {L : List El}
theorem RowT.cell (h : RowT blk N cap W L) {j : Nat} {e : El} (hj : L[j]? = some e) : W.cell? ⟨blk, j * 2, none⟩ = some e.r ∧ W.cell? ⟨blk, j * 2 + 1, none⟩ = some e.r' := by
 have hl : j < L.length := (List.getElem?_eq_some_iff.1 hj).1
 have := h.1
 have h0 := h.2.1.cellAt (j * 2) (by omega)
 have h1 := h.2.1.cellAt (j * 2 + 1) (by omega)
 obtain ⟨a, b⟩ := cellsT_at hj
 exact ⟨h0.trans a, h1.trans b⟩
theorem RowT.reads (h : RowT blk N cap W L) {j : Nat} {e : El} (hj : L[j]? = some e) : RI (Off blk) W e.r e.x ∧ RI (Off blk) W e.r' e.y := h.2.2 e (List.mem_of_getElem? hj)
theorem RowT.below (h : RowT blk N cap W L) (hb : Below W.heap.size W W') : RowT blk N cap W' L :=
 ⟨h.1, own_keep h.2.1 (fun b hv => hb.block b (h.2.1.lt b hv).2), fun e he => ⟨(h.2.2 e he).1.below hb, (h.2.2 e he).2.below hb⟩⟩
theorem RowT.lt (h : RowT blk N cap W L) : blk < W.heap.size := (h.2.1.lt blk rfl).2
theorem RowT.put (h : RowT blk N cap W L) {j : Nat} {e : El} (he : RI (Off blk) W e.r e.x ∧ RI (Off blk) W e.r' e.y) : RowT blk N cap ((W.setCell ⟨blk, j * 2, none⟩ e.r).setCell ⟨blk, j * 2 + 1, none⟩ e.r') (L.set j e) ∧
  W.grownBy ((W.setCell ⟨blk, j * 2, none⟩ e.r).setCell ⟨blk, j * 2 + 1, none⟩ e.r') (some blk) := by
 obtain ⟨a1, g1⟩ := h.2.1.stored (j * 2) e.r
 obtain ⟨a2, g2⟩ := a1.stored (j * 2 + 1) e.r'
 have g := Off.tr g1 g2
 rw [cellsT_set] at a2
 refine ⟨⟨by simp [h.1], a2, fun f hf => ?_⟩, g⟩
 rcases List.mem_or_eq_of_mem_set hf with h' | rfl
 ·exact ⟨Off.keepI (h.2.2 f h').1 g, Off.keepI (h.2.2 f h').2 g⟩
 ·exact ⟨Off.keepI he.1 g, Off.keepI he.2 g⟩
end
end Go.Proofs.YtipjomdldjbenaaGreatDoor
