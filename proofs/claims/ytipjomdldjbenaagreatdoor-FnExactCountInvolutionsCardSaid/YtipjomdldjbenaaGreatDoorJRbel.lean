/- The order of elements by the reference (l15Below). -/
import Derived.Test.YtipjomdldjbenaaGreatDoorJGRp
import Derived.Test.YtipjomdldjbenaaGreatDoorJGStar
import Derived.Test.YtipjomdldjbenaaGreatDoorJAppS
import Derived.Deep.RegionWith
namespace Go.Proofs.YtipjomdldjbenaaGreatDoor
open Go.RowKit
set_option maxRecDepth 20000

theorem nf_empty {c : List (List Int)} {mu : List Int} : (nf c 30 mu).length = 0 ↔ firstN mu = none := by
  cases e : firstN mu with
  | none => simp [nf_end e]
  | some i => simp [nf, e]
theorem normL_cons {c : List (List Int)} (hc : CartanP c) {mu : List Int} {m : Nat} (h : Im c mu m) (hm : m ≤ 28) (s : Int) : normL c (s :: nf c 30 mu) = nf c 30 (refl c s.toNat mu) := by
  unfold normL
  show nf c 30 (refl c s.toNat (image c (nf c 30 mu))) = _
  rw [nf_image hc m h (by omega)]

end Go.Proofs.YtipjomdldjbenaaGreatDoor
