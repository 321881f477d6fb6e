/- Own rows of rows put in descending order by the library. Condition: at most 2^26 rows of one length. -/
import Derived.Test.YtipjomdldjbenaaGreatDoorJGHeap
import Derived.Test.YtipjomdldjbenaaGreatDoorJGt
import Derived.Test.YtipjomdldjbenaaGreatDoorJGWords
import Derived.Test.YtipjomdldjbenaaGreatDoorJGSortV
namespace Go.Proofs.YtipjomdldjbenaaGreatDoor
open Go.RowKit Go.Sort
set_option maxRecDepth 20000

theorem swo_gt {α : Type} {f : α → List Int} {n : Nat} (hn : ∀ x, (f x).length = n) : SWO (ltOf fun x y => lexC (f y) (f x)) := by
  have e : ∀ x y, ltOf (fun x y => lexC (f y) (f x)) x y = gtL (f x) (f y) := fun x y => by
    unfold ltOf
    rw [Bool.eq_iff_iff, decide_eq_true_iff]
    exact (gtL_lex (by rw [hn, hn])).symm
  refine ⟨fun x => by rw [e]; exact gtL_irr _, fun x y z h1 h2 => ?_, fun x y z h1 h2 => ?_⟩
  · rw [e] at *; exact gtL_trans h1 h2
  · rw [e] at *
    cases h3 : gtL (f x) (f z) with
    | false => rfl
    | true =>
      exfalso
      by_cases h4 : f x = f y
      · rw [h4] at h3; rw [h3] at h2; cases h2
      · by_cases h5 : f y = f z
        · rw [h5] at h1; rw [h1] at h3; cases h3
        · rcases gtL_total (by rw [hn, hn]) h4 with h6 | h6
          · rw [h6] at h1; cases h1
          · rcases gtL_total (by rw [hn, hn]) h5 with h7 | h7
            · rw [h7] at h2; cases h2
            · have := gtL_trans (gtL_trans h7 h6) h3
              rw [gtL_irr] at this; cases this

end Go.Proofs.YtipjomdldjbenaaGreatDoor
