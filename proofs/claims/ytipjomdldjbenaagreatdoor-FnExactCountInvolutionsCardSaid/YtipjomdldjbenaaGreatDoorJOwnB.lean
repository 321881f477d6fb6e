/- A row of truth values of the call's own. No condition. -/
import Derived.Test.YtipjomdldjbenaaGreatDoorJGCart
namespace Go.Proofs.YtipjomdldjbenaaGreatDoor
open Go.RowKit
set_option maxRecDepth 20000

theorem infoBool : (Tryz.prog.info? 4).map (fun i => (i.zero, i.size, i.bytes)) = some (some (.bool false), 1, 1) := by kernel_rfl
/-- A slice of truth values that owns its row, a block of S. -/
def FBo (S : Nat → Prop) (w : World) (v : Value) (l : List Bool) : Prop := w.ownsRow 0 4 1 v l.length (l.map Value.bool) ∧ ∀ b, v.ownBlock = some b → S b
theorem FBo.mono {S S' : Nat → Prop} {w : World} {v : Value} {l : List Bool} (h : FBo S w v l) (hS : ∀ b, S b → S' b) : FBo S' w v l := ⟨h.1, fun b hb => hS b (h.2 b hb)⟩
theorem FBo.below {S : Nat → Prop} {w w' : World} {v : Value} {l : List Bool} (h : FBo S w v l) (hb : Below w.heap.size w w') : FBo S w' v l := ⟨own_below h.1 hb, h.2⟩
theorem FBo.grow {W w w' : World} {v : Value} {l : List Bool} (h : FBo (New W w) w v l) (hb : Below w.heap.size w w') : FBo (New W w') w' v l :=
  (h.below hb).mono fun b hb' => ⟨hb'.1, by have := hb'.2; have := hb.size; omega⟩
theorem FBo.of_row {w w' : World} {B : Nat} {v : Value} {l : List Bool} {n : Nat} {xs : List Value} (h : w'.ownsRow B 4 1 v n xs) (hB : w.heap.size ≤ B) (hn : n = l.length) (hx : xs = l.map Value.bool) : FBo (New w w') w' v l := by
  subst hn
  subst hx
  exact ⟨own_base h (Nat.zero_le _), fun b hb => by obtain ⟨h1, h2⟩ := h.lt b hb; exact ⟨by omega, h2⟩⟩
theorem FBo.cell {S : Nat → Prop} {w : World} {g n cap : Nat} {l : List Bool} (h : FBo S w (.slice (some ⟨g, 0, none⟩) n cap) l) (hl : l.length = n) {k : Nat} {x : Bool} (hx : l[k]? = some x) : w.cell? ⟨g, k, none⟩ = some (.bool x) := by
  subst hl
  have hk : k < l.length := (List.getElem?_eq_some_iff.1 hx).1
  rw [h.1.cellAt k (by omega), List.getElem?_map, hx]; rfl
theorem FBo.froz {S : Nat → Prop} {w : World} {g n cap : Nat} {l : List Bool} (h : FBo S w (.slice (some ⟨g, 0, none⟩) n cap) l) (hl : l.length = n) (k : Nat) : w.frozen? ⟨g, k, none⟩ = false := by
  subst hl
  exact h.1.frozenAt k
theorem FBo.put {S : Nat → Prop} {w : World} {g n cap : Nat} {l : List Bool} (h : FBo S w (.slice (some ⟨g, 0, none⟩) n cap) l) (hl : l.length = n) (k : Nat) (x : Bool) : FBo S (w.setCell ⟨g, k, none⟩ (.bool x)) (.slice (some ⟨g, 0, none⟩) n cap) (l.set k x) := by
  subst hl
  have := (h.1.stored k (.bool x)).1
  refine ⟨?_, h.2⟩
  rw [List.length_set, List.map_set]
  exact this
theorem FBo.head {S : Nat → Prop} {w : World} {v : Value} {l : List Bool} (h : FBo S w v l) (h0 : 0 < l.length) : ∃ g cap, v = .slice (some ⟨g, 0, none⟩) l.length cap ∧ S g ∧ g < w.heap.size := by
  rcases h.1.2 with ⟨_, hn⟩ | ⟨g, cap, cur, hv, _⟩
  · omega
  · exact ⟨g, cap, hv, h.2 g (by rw [hv]; rfl), (h.1.lt g (by rw [hv]; rfl)).2⟩
theorem FBo.tag {S : Nat → Prop} {w : World} {v : Value} {l : List Bool} (h : FBo S w v l) {b : Nat} (hb : v.ownBlock = some b) : ∃ cur, w.heap[b]? = some (.cells cur 4 (0, 0)) := own_tag h.1 hb
/-- A number's row has grown or turned: the truth values stand. -/
theorem FBo.grown {S S' : Nat → Prop} {w w' : World} {v r : Value} {l : List Bool} {m : List Int} (h : FBo S w v l) (hr : FI S' w r m) (hg : w.grownBy w' r.ownBlock) : FBo S w' v l :=
  ⟨own_keep h.1 fun b hb => hg.block b (h.1.lt b hb).2 (fun e => by
    obtain ⟨c1, t1⟩ := own_tag hr.1 e.symm
    obtain ⟨c2, t2⟩ := own_tag h.1 hb
    rw [t1] at t2
    simp at t2), h.2⟩
/-- A truth value has been stored: the numbers stand. -/
theorem FI.storedB {S S' : Nat → Prop} {w : World} {v : Value} {g j : Nat} {n cap : Nat} {l : List Bool} {m : List Int} {x : Value} (h : FI S' w v m) (hb : FBo S w (.slice (some ⟨g, 0, none⟩) n cap) l) : FI S' (w.setCell ⟨g, j, none⟩ x) v m :=
  h.keep fun b hv => heap_setCell_other w ⟨g, j, none⟩ b x (fun e => by
    obtain ⟨c1, t1⟩ := own_tag hb.1 (b := g) rfl
    obtain ⟨c2, t2⟩ := own_tag h.1 hv
    rw [e, t1] at t2
    simp at t2)
end Go.Proofs.YtipjomdldjbenaaGreatDoor
