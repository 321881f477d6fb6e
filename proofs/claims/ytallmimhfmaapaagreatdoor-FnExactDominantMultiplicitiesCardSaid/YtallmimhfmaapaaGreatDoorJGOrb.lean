/- All images of a weight, by the reference. Condition: sizes up to 2^24. -/
import Derived.Test.YtallmimhfmaapaaGreatDoorJGInV
import Derived.Test.YtallmimhfmaapaaGreatDoorJGOrbP
import Derived.Test.YtallmimhfmaapaaGreatDoorJGSy
import Derived.Test.YtallmimhfmaapaaGreatDoorJDomOfS
import Derived.Test.YtallmimhfmaapaaGreatDoorJGKeys
import Derived.Test.YtallmimhfmaapaaGreatDoorJSrtV
import Derived.Test.YtallmimhfmaapaaGreatDoorJDom
namespace Go.Proofs.YtallmimhfmaapaaGreatDoor
open Go.RowKit
set_option maxRecDepth 20000
theorem zNX {A : Nat → Prop} {w0 w w1 : World} {Ps : List zAH} {r : Value} (h : HSx A w0 w Ps) (hw : w1 = w.alloc (.cells #[r] 23)) : HSx A w0 w1 (Ps ++ [aV 23 (.slice (some ⟨w.heap.size, 0, none⟩) 1 1) [r]]) := by
 subst hw
 refine h.add ((Below.refl _ _).alloc (zRy _) _) (st_V _ _ _) (F := fun b => b = w.heap.size) ⟨?_, fun b hb => by simpa [Value.ownBlock] using hb.symm⟩ (fun b hb => by subst hb; exact ⟨zRy _, by simp⟩)
 exact World.ownsRow_lit (base := 0) (e := 23) (size := 1) w #[r] 1 (Nat.zero_le _) (by unfold maxLen; omega) rfl
theorem zF7 (v : List Int) : ∀ l : List (List Int), (putV v l).length ≤ l.length + 1
 | [] => by simp [putV]
 | x :: l => by
  unfold putV
  split
  ·simp
  ·split
   ·simp
   ·have := zF7 v l; simp; omega
theorem zDq : ∀ (q l : List (List Int)), (q.foldl (fun l v => putV v l) l).length ≤ l.length + q.length
 | [], l => by simp
 | v :: q, l => by
  have h1 := zDq q (putV v l)
  have h2 := zF7 v l
  simp only [List.foldl_cons, List.length_cons]
  omega
theorem HSx.iToRs {A : Nat → Prop} {w0 w : World} {Ps : List zAH} {r : Value} {l : List Int} (h : HSx A w0 w Ps) (j : Nat) (hj : Ps[j]? = some (aI r l)) : HSx A w0 w (Ps.set j (aRs [(r, l)])) :=
 h.imp j hj (zCM _) fun F hF => ⟨fun x hx => by rw [List.mem_singleton] at hx; subst hx; exact hF, List.pairwise_singleton _ _⟩
theorem zJo (c : List (List Int)) (i : Nat) (x : Int) : ∀ (l : List Int) (k : Nat), InI (zAk c i x l k)
 | [], k => fun y hy => by simp [zAk] at hy
 | z :: l, k => fun y hy => by
  simp only [zAk, List.mem_cons] at hy
  rcases hy with rfl | hy
  ·unfold wrap64; omega
  ·exact zJo c i x l (k + 1) y hy
theorem zQT (c : List (List Int)) (i : Nat) (l : List Int) : InI (refl c i l) := zJo c i _ l 0
theorem zKd {n : Nat} {r s : List (List Int)} {t : List (List Int)} (hp : t.Perm r) (hs : t.Pairwise fun a b => ¬ lexC a b < 0) (hr : r.Nodup) (hn : ∀ x ∈ r, x.length = n) (he : ∀ x, x ∈ r ↔ x ∈ s) : t = zAw s := by
 have h1 : Dsc n t := zQZ hs (hp.nodup_iff.2 hr) (fun x hx => hn x (hp.mem_iff.1 hx))
 obtain ⟨h2, h3⟩ := zDr (n := n) (q := s) (fun x hx => hn x ((he x).2 hx))
 exact zK1 h1 h2 (fun x => by rw [hp.mem_iff, he, h3])
def zIe (n : Nat) (Z : Zl) : Prop := ∀ z ∈ Z, z.2.length = n ∧ InI z.2
end Go.Proofs.YtallmimhfmaapaaGreatDoor
