/- The coefficient of a word in a list of terms. Condition: sizes up to 2^24. -/
import Derived.Test.YtipjomdldjbenaaGreatJLawTerm
import Derived.Test.YtipjomdldjbenaaGreatJGWords
import Derived.Test.YtipjomdldjbenaaGreatJGCart
namespace Go.Proofs.YtipjomdldjbenaaGreat
open Go.RowKit
set_option maxRecDepth 20000

def coeff (l : List Int) : List Trm → List Int
  | [] => []
  | x :: xs => if eqL x.1 l then x.2 else coeff l xs

theorem coeff_le (l : List Int) : ∀ (L : List Trm), (coeff l L).length ≤ totalT L
  | [] => by simp [coeff]
  | x :: xs => by
    have ih := coeff_le l xs
    unfold coeff
    have h2 := term_le (L := x :: xs) (x := x) (by simp)
    have h3 : totalT (x :: xs) = totalT xs + 1 + x.1.length + x.2.length := by simp [totalT, flatT]; omega
    split <;> omega

theorem below_empty {w : World} {e : TypeId} : Below w.heap.size w (w.alloc (.cells #[] e)) := (Below.refl _ w).alloc (Nat.le_refl _) _

theorem FI.fresh0 (w : World) : FI (New w (w.alloc (.cells #[] 3))) (w.alloc (.cells #[] 3)) (.slice (some ⟨w.heap.size, 0, none⟩) 0 0) [] := by
  have := World.ownsRow_lit (base := w.heap.size) (e := 3) (size := 1) w #[] 0 (Nat.le_refl _) (by unfold maxLen; omega) rfl
  exact FI.of_row this (Nat.le_refl _) rfl rfl

set_option maxHeartbeats 400000 in
theorem equalWordsImpl {S S' : Nat → Prop} {u v : Value} {l l' : List Int} {w : World} (h : RI S w u l) (h' : RI S' w v l') (hl : l.length ≤ 16777216) (hl' : l'.length ≤ 16777216) :
    Calls Tryz.prog 57 #[u, v] w fun e w' => e = .returned (.bool (eqL l l')) ∧ ∃ m, w' = w.drewN m := by
  go_enter Tryz.func57, Tryz.ntmps57
  go_wp2_with fail
  refine (slicesEqual h h' hl hl').mono ?_
  rintro e w' ⟨rfl, hw⟩
  go_wp2_with fail
  go_ret
  exact ⟨rfl, hw⟩

end Go.Proofs.YtipjomdldjbenaaGreat
