/- The coefficient of a word in a list of terms. Condition: sizes up to 2^24. -/
import Derived.Test.YtdboknhjbjibjaaJGOp
import Derived.StillTailTactics
import Derived.Test.YtdboknhjbjibjaaJGBase
import Derived.Test.YtdboknhjbjibjaaJGCart
namespace Go.Proofs.Ytdboknhjbjibjaa
open Go.RowKit
set_option maxRecDepth 20000

theorem below_empty {w : World} {e : TypeId} : Below w.heap.size w (w.alloc (.cells #[] e)) := (Below.refl _ w).alloc (Nat.le_refl _) _

theorem FI.fresh0 (w : World) : FI (New w (w.alloc (.cells #[] 3))) (w.alloc (.cells #[] 3)) (.slice (some ⟨w.heap.size, 0, none⟩) 0 0) [] := by
  have := World.ownsRow_lit (base := w.heap.size) (e := 3) (size := 1) w #[] 0 (Nat.le_refl _) (by unfold maxLen; omega) rfl
  exact FI.of_row this (Nat.le_refl _) rfl rfl

end Go.Proofs.Ytdboknhjbjibjaa
