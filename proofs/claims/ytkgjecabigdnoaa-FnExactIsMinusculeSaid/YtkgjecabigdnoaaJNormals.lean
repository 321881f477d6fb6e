/- Normal forms: the reference's, and what both give for a word. Condition: words of at most 30 letters of a Cartan matrix. -/
import Derived.Test.YtkgjecabigdnoaaJNormal
namespace Go.Proofs.Ytkgjecabigdnoaa
open Go.RowKit
set_option maxRecDepth 20000

/-- The normal form of a word, if it is one. -/
def nform (c : List (List Int)) (l : List Int) : List Int := if isWd c l then normL c l else []
theorem nform_le (c : List (List Int)) (l : List Int) : (nform c l).length ≤ l.length := by
  unfold nform
  cases h : isWd c l
  · simp
  · obtain ⟨h1, h2, h3⟩ := isWd_parts h
    exact normL_le (isC_iff.1 h1) h3 (by omega)

end Go.Proofs.Ytkgjecabigdnoaa
