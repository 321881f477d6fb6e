/- Polynomials without zeros at their end. Condition: at most 2^24 numbers. -/
import Derived.Test.YtkgjecabigdnoaaJApp
import Derived.Test.YtkgjecabigdnoaaJSums
namespace Go.Proofs.Ytkgjecabigdnoaa
open Go.RowKit
set_option maxRecDepth 20000

def trimTo (p : List Int) : Nat → Nat
  | 0 => 0
  | n + 1 => if num p n = 0 then trimTo p n else n + 1
def trim (p : List Int) : List Int := p.take (trimTo p p.length)
theorem trimTo_le (p : List Int) : ∀ n, trimTo p n ≤ n
  | 0 => Nat.le_refl _
  | n + 1 => by
    unfold trimTo
    have := trimTo_le p n
    split <;> omega
theorem trim_le (p : List Int) : (trim p).length ≤ p.length := by unfold trim; simp; omega
theorem RI.take {S : Nat → Prop} {w : World} {a : Option Addr} {n cap k : Nat} {l : List Int} (h : RI S w (.slice a n cap) l) (hk : k ≤ n) : RI S w (.slice a k cap) (l.take k) := by
  obtain ⟨a', cap', hv, hc, h⟩ := h
  simp only [Value.slice.injEq] at hv
  obtain ⟨rfl, rfl, rfl⟩ := hv
  have hl : (l.take k).length = k := by simp; omega
  refine ⟨a, cap, by rw [hl], ⟨by omega, hc.2⟩, ?_⟩
  rcases h with h | ⟨b, o, ha, hs, ht, h⟩
  · subst h; exact .inl (by simp)
  · exact .inr ⟨b, o, ha, hs, ht, fun j x hx => h j x (by rw [List.getElem?_take] at hx; split at hx <;> first | exact hx | cases hx)⟩

def isP (p : List Int) : Bool := decide (p.length ≤ 61) && decide (trimTo p p.length = p.length)

end Go.Proofs.Ytkgjecabigdnoaa
