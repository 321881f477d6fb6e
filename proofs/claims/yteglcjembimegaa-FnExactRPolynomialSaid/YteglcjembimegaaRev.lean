/- A word from its end, by the program. Condition: at most 2^24 letters. -/
import Derived.Test.YteglcjembimegaaActs
import Derived.Test.YteglcjembimegaaAppS
import Derived.RegionTactic
import Derived.BigRegion
namespace Go.Proofs.Yteglcjembimegaa
open Go.RowKit
set_option maxRecDepth 20000

theorem Only.drew {S : Nat → Prop} {a b : World} (h : Only S a b) : Only S a b.drew := ⟨h.os, h.tape, h.output, h.size, h.block⟩
theorem FI.drew {S : Nat → Prop} {w : World} {v : Value} {l : List Int} (h : FI S w v l) : FI S w.drew v l := FI.keep h fun _ _ => rfl

/-- Between k and q as it was, elsewhere turned. -/
def Turned (l L : List Int) (n k q : Nat) : Prop := L.length = n ∧ ∀ p, p < n → L[p]? = if k ≤ p ∧ p < q then l[p]? else l[n - 1 - p]?
theorem turned_0 {l : List Int} {n : Nat} (h : l.length = n) : Turned l l n 0 n := ⟨h, fun p hp => by rw [if_pos ⟨Nat.zero_le _, hp⟩]⟩
theorem turned_end {l L : List Int} {n k q : Nat} (hl : l.length = n) (hkq : k + q = n) (h : Turned l L n k q) (hq : ¬ k + 1 < q) : L = l.reverse := by
  refine List.ext_getElem? fun p => ?_
  rcases Nat.lt_or_ge p n with hp | hp
  · rw [h.2 p hp, List.getElem?_reverse (by omega), hl]
    by_cases h1 : k ≤ p ∧ p < q
    · rw [if_pos h1]; congr 1; omega
    · rw [if_neg h1]
  · rw [List.getElem?_eq_none (by have := h.1; omega), List.getElem?_eq_none (by simp; omega)]
theorem turned_step {l L : List Int} {n k j : Nat} {x y : Int} (_ : l.length = n) (hkq : k + (j + 1) = n) (h : Turned l L n k (j + 1)) (hq : k < j) (hx : L[k]? = some x) (hy : L[j]? = some y) : Turned l ((L.set k y).set j x) n (k + 1) j := by
  refine ⟨by simp [h.1], fun p hp => ?_⟩
  have hk : k < L.length := by rw [h.1]; omega
  have hj : j < L.length := by rw [h.1]; omega
  have e1 : l[k]? = some x := by rw [← hx, h.2 k (by omega), if_pos (by omega)]
  have e2 : l[j]? = some y := by rw [← hy, h.2 j (by omega), if_pos (by omega)]
  by_cases h1 : p = j
  · subst h1
    rw [List.getElem?_set_self (by simp; omega), if_neg (by omega), show n - 1 - p = k by omega, e1]
  · rw [List.getElem?_set_ne (by omega)]
    by_cases h2 : p = k
    · subst h2
      rw [List.getElem?_set_self (by omega), if_neg (by omega), show n - 1 - p = j by omega, e2]
    · rw [List.getElem?_set_ne (by omega), h.2 p hp]
      by_cases h3 : k ≤ p ∧ p < j + 1
      · rw [if_pos h3, if_pos (by omega)]
      · rw [if_neg h3, if_neg (by omega)]

set_option maxHeartbeats 1000000 in
theorem slicesReverse {S : Nat → Prop} {v : Value} {l : List Int} {w : World} (h : FI S w v l) (hl : l.length ≤ 16777216) :
    Calls Try.prog 148 #[v] w fun e w' => e = .returned (.tuple #[]) ∧ FI S w' v l.reverse ∧ Only S w w' := by
  obtain ⟨a, cap, rfl⟩ := h.form
  have H0 := Lib.hid (turned_0 (l := l) rfl)
  generalize hn : l.length = n at *
  have HN := Lib.hid hn
  clear hn
  go_enter Try.func148, Try.ntmps148
  go_wp2_with fail
  go_loopw [2, 3] (fun i j wr => ∃ (k q : Nat) (L : List Int), k + q = n ∧ i = .int .i64 k ∧ j = .int .i64 ((q : Int) - 1) ∧ FI S wr (.slice a n cap) L ∧ Hid (Turned l L n k q) ∧ Only S w wr) (fun i _ _ => n - (intOf i).toNat)
  case atStart => exact ⟨0, n, l, by omega, rfl, rfl, h, H0, Only.refl _ _⟩
  case round =>
    obtain ⟨k, q, L, hkq, rfl, rfl, hf, HTU, ho⟩ := hrel
    by_cases hlt : k + 1 < q
    · obtain ⟨j, rfl⟩ : ∃ j, q = j + 1 := ⟨q - 1, by omega⟩
      have e1 : ((j + 1 : Nat) : Int) - 1 = (j : Int) := by omega
      rw [e1]
      have hL := HTU.out.1
      obtain ⟨x, hx⟩ : ∃ x, L[k]? = some x := ⟨_, List.getElem?_eq_getElem (by omega)⟩
      obtain ⟨y, hy⟩ : ∃ y, L[j]? = some y := ⟨_, List.getElem?_eq_getElem (by omega)⟩
      obtain ⟨g, rfl, hg, _⟩ := hf.head (by omega)
      have hcx := hf.cell hx (by omega)
      have hcy := hf.cell hy (by omega)
      have fx := hf.froz hL k
      have fy := hf.froz hL j
      have HST := Lib.hid (turned_step HN.out hkq HTU.out (by omega) hx hy)
      have hp1 := hf.put hL k y
      have hp2 := Lib.hid (hp1.put (by simp [hL]) j x)
      have HLL : Hid (L.length = n) := Lib.hid hL
      clear hp1 hL hx hy e1
      have i1 : (k : Int) < (j : Int) := by omega
      have i2 : (j : Int) < (n : Int) := by omega
      have i3 : (k : Int) < (n : Int) := by omega
      have hne : ¬ k = j := by omega
      have hne2 : ¬ j = k := by omega
      go_wp2_with fail
      go_region
      go_wp2_with fail
      go_roundw
      case rel => exact ⟨k + 1, j, _, by omega, by go_num, by go_num, hp2.out.drew, HST, ((ho.setCell hg _).setCell hg _).drew⟩
      case measure => simp [intOf]; omega
    · have hr : Hid (L = l.reverse) := Lib.hid (turned_end HN.out hkq HTU.out hlt)
      have i1 : ¬ (k : Int) < (q : Int) - 1 := by omega
      go_wp2_with fail
      go_end0
      exact ⟨rfl, by rw [← hr.out]; exact hf, ho⟩

set_option maxHeartbeats 1000000 in
theorem reverseWordImpl {S : Nat → Prop} {v : Value} {l : List Int} {w : World} (h : RI S w v l) (hl : l.length ≤ 16777216) :
    Calls Try.prog 113 #[v] w fun e w' => ∃ r, e = .returned r ∧ FI (New w w') w' r l.reverse ∧ Below w.heap.size w w' := by
  obtain ⟨a, cap, rfl⟩ := h.form
  go_enter Try.func113, Try.ntmps113
  obtain ⟨f1, b1⟩ := fresh_of (w := w) (Below.refl _ w) rfl
  go_wp2_with (at_builtin; go_must (refine wpList_app (W := w) rfl _ _ rfl rfl f1 b1 rfl (h.below b1) ?_ ?_))
  · simp; omega
  · intro v1 w2 f2 b2 _
    clear b1 f1 h
    go_wp2_with fail
    refine (slicesReverse f2 hl).mono ?_
    rintro e w3 ⟨rfl, f3, o3⟩
    go_wp2_with fail
    go_ret
    exact ⟨_, rfl, f3.mono (fun b hb => ⟨hb.1, by rw [o3.size]; exact hb.2⟩), b2.trans (o3.below (fun b hb => hb.1))⟩
end Go.Proofs.Yteglcjembimegaa
