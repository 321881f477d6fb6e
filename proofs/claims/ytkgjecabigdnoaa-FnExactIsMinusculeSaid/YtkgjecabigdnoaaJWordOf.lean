/- Whether a list is a word of a matrix. Condition: sizes up to 2^24. -/
import Derived.Test.YtkgjecabigdnoaaJWeight
namespace Go.Proofs.Ytkgjecabigdnoaa
open Go.RowKit
set_option maxRecDepth 20000

set_option maxHeartbeats 400000 in
theorem isPoint_any {S : Nat → Prop} {u : Value} {c : List (List Int)} {w : World} (x : Int) (h : RII S w u c) :
    Calls Try.prog 78 #[u, .int .i64 x] w fun e w' => e = .returned (.bool (ptB c x)) ∧ w = w' := by
  obtain ⟨a, cap, rfl⟩ := h.form
  unfold ptB
  by_cases h1 : 0 ≤ x
  · by_cases h2 : x < c.length
    · go_enter Try.func78, Try.ntmps78
      go_wp2_with fail
      go_ret
      exact ⟨ret_bool (inR_yes (by omega)).symm, rfl⟩
    · go_enter Try.func78, Try.ntmps78
      go_wp2_with fail
      go_ret
      exact ⟨ret_bool (inR_no (by omega)).symm, rfl⟩
  · go_enter Try.func78, Try.ntmps78
    go_wp2_with fail
    go_ret
    exact ⟨ret_bool (inR_no (by omega)).symm, rfl⟩

end Go.Proofs.Ytkgjecabigdnoaa
