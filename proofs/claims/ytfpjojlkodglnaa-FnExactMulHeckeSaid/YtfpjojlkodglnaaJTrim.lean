/- Polynomials without zeros at their end. Condition: at most 2^24 numbers. -/
import Derived.Test.YtfpjojlkodglnaaJApp
import Derived.Test.YtfpjojlkodglnaaJSums
namespace Go.Proofs.Ytfpjojlkodglnaa
open Go.RowKit
set_option maxRecDepth 20000

def trimTo (p : List Int) : Nat → Nat
  | 0 => 0
  | n + 1 => if num p n = 0 then trimTo p n else n + 1
def trim (p : List Int) : List Int := p.take (trimTo p p.length)
theorem trimTo_le (p : List Int) : ∀ n, trimTo p n ≤ n
  | 0 => Nat.le_refl _
  | n + 1 => by
    unfold trimTo
    have := trimTo_le p n
    split <;> omega
theorem trim_le (p : List Int) : (trim p).length ≤ p.length := by unfold trim; simp; omega
theorem RI.take {S : Nat → Prop} {w : World} {a : Option Addr} {n cap k : Nat} {l : List Int} (h : RI S w (.slice a n cap) l) (hk : k ≤ n) : RI S w (.slice a k cap) (l.take k) := by
  obtain ⟨a', cap', hv, hc, h⟩ := h
  simp only [Value.slice.injEq] at hv
  obtain ⟨rfl, rfl, rfl⟩ := hv
  have hl : (l.take k).length = k := by simp; omega
  refine ⟨a, cap, by rw [hl], ⟨by omega, hc.2⟩, ?_⟩
  rcases h with h | ⟨b, o, ha, hs, ht, h⟩
  · subst h; exact .inl (by simp)
  · exact .inr ⟨b, o, ha, hs, ht, fun j x hx => h j x (by rw [List.getElem?_take] at hx; split at hx <;> first | exact hx | cases hx)⟩

set_option maxHeartbeats 1000000 in
theorem trimPolyImpl {S : Nat → Prop} {v : Value} {l : List Int} {w : World} (h : RI S w v l) (hl : l.length ≤ 16777216) :
    Calls Try.prog 59 #[v] w fun e w' => ∃ r, e = .returned r ∧ FI (New w w') w' r (trim l) ∧ Below w.heap.size w w' := by
  obtain ⟨a, cap, rfl⟩ := h.form
  have HC : l.length ≤ cap := by
    obtain ⟨_, _, hv, hc, _⟩ := h
    simp only [Value.slice.injEq] at hv
    obtain ⟨_, _, rfl⟩ := hv
    exact hc.1
  have HR : Hid (l.take (trimTo l l.length) = trim l) := Lib.hid rfl
  generalize hn : l.length = n at *
  have HN := Lib.hid hn
  clear hn
  go_enter Try.func59, Try.ntmps59
  go_wp2_with fail
  go_loop [3] (fun j => ∃ (k : Nat), k ≤ n ∧ j = .int .i64 k ∧ Hid (trimTo l k = trimTo l n)) (fun j => (intOf j).toNat)
  case atStart => exact ⟨n, Nat.le_refl _, rfl, Lib.hid rfl⟩
  case round =>
    obtain ⟨k, hk, rfl, HK⟩ := hrel
    have fin : Hid (trimTo l k = k) → Hid (trim l = l.take k ∧ (l.take k).length ≤ k) := fun e => Lib.hid ⟨by rw [← HR.out, ← HK.out, e.out], by simp; omega⟩
    have hcp := h.take hk
    have hkc : k ≤ cap := by omega
    rcases k with _ | k
    · have HF := fin (Lib.hid rfl)
      obtain ⟨f1, b1⟩ := fresh_of (w := w) (Below.refl _ w) rfl
      go_wp2_with (at_builtin; go_must (refine wpList_app (W := w) rfl _ _ rfl rfl f1 b1 rfl (hcp.below b1) ?_ ?_))
      intro v1 w2 f2 b2 _
      go_wp2_with fail
      go_ret
      rw [HF.out.1]
      exact ⟨_, rfl, f2, b2⟩
    · obtain ⟨b, o, x, rfl, hc, hx⟩ := h.at (j := k) (by omega)
      have e1 : ((k + 1 : Nat) : Int) - 1 = (k : Int) := by omega
      by_cases hx0 : x = 0
      · have HK2 : Hid (trimTo l k = trimTo l n) := Lib.hid (by rw [← HK.out]; show _ = if num l k = 0 then trimTo l k else k + 1; rw [if_pos (by rw [num_at hx.out]; exact hx0)])
        clear fin hcp
        subst hx0
        go_wp2_with fail
        go_round
        case rel => exact ⟨k, by omega, by go_num, HK2⟩
        case measure => simp [intOf]
      · have HF := fin (Lib.hid (by show (if num l k = 0 then trimTo l k else k + 1) = k + 1; rw [if_neg (by rw [num_at hx.out]; exact hx0)]))
        clear fin
        obtain ⟨f1, b1⟩ := fresh_of (w := w) (Below.refl _ w) rfl
        go_wp2_with (at_builtin; go_must (refine wpList_app (W := w) rfl _ _ rfl rfl f1 b1 rfl (hcp.below b1) ?_ ?_))
        · have := HF.out.2; simp; omega
        · intro v1 w2 f2 b2 _
          go_wp2_with fail
          go_ret
          rw [HF.out.1]
          exact ⟨_, rfl, f2, b2⟩

set_option maxHeartbeats 1000000 in
theorem trimPolySpec {S : Nat → Prop} {v : Value} {l : List Int} {w : World} (h : RI S w v l) (hl : l.length ≤ 16777216) :
    Calls Try.prog 53 #[v] w fun e w' => ∃ r, e = .returned r ∧ FI (New w w') w' r (trim l) ∧ Below w.heap.size w w' := by
  obtain ⟨a, cap, rfl⟩ := h.form
  have HC : l.length ≤ cap := by
    obtain ⟨_, _, hv, hc, _⟩ := h
    simp only [Value.slice.injEq] at hv
    obtain ⟨_, _, rfl⟩ := hv
    exact hc.1
  have HR : Hid (l.take (trimTo l l.length) = trim l) := Lib.hid rfl
  generalize hn : l.length = n at *
  have HN := Lib.hid hn
  clear hn
  go_enter Try.func53, Try.ntmps53
  go_wp2_with fail
  go_loop [3] (fun j => ∃ (k : Nat), k ≤ n ∧ j = .int .i64 k ∧ Hid (trimTo l k = trimTo l n)) (fun j => (intOf j).toNat)
  case atStart => exact ⟨n, Nat.le_refl _, rfl, Lib.hid rfl⟩
  case round =>
    obtain ⟨k, hk, rfl, HK⟩ := hrel
    have fin : Hid (trimTo l k = k) → Hid (trim l = l.take k ∧ (l.take k).length ≤ k) := fun e => Lib.hid ⟨by rw [← HR.out, ← HK.out, e.out], by simp; omega⟩
    have hcp := h.take hk
    have hkc : k ≤ cap := by omega
    rcases k with _ | k
    · have HF := fin (Lib.hid rfl)
      obtain ⟨f1, b1⟩ := fresh_of (w := w) (Below.refl _ w) rfl
      go_wp2_with (at_builtin; go_must (refine wpList_app (W := w) rfl _ _ rfl rfl f1 b1 rfl (hcp.below b1) ?_ ?_))
      intro v1 w2 f2 b2 _
      go_wp2_with fail
      go_ret
      rw [HF.out.1]
      exact ⟨_, rfl, f2, b2⟩
    · obtain ⟨b, o, x, rfl, hc, hx⟩ := h.at (j := k) (by omega)
      have e1 : ((k + 1 : Nat) : Int) - 1 = (k : Int) := by omega
      by_cases hx0 : x = 0
      · have HK2 : Hid (trimTo l k = trimTo l n) := Lib.hid (by rw [← HK.out]; show _ = if num l k = 0 then trimTo l k else k + 1; rw [if_pos (by rw [num_at hx.out]; exact hx0)])
        clear fin hcp
        subst hx0
        go_wp2_with fail
        go_round
        case rel => exact ⟨k, by omega, by go_num, HK2⟩
        case measure => simp [intOf]
      · have HF := fin (Lib.hid (by show (if num l k = 0 then trimTo l k else k + 1) = k + 1; rw [if_neg (by rw [num_at hx.out]; exact hx0)]))
        clear fin
        obtain ⟨f1, b1⟩ := fresh_of (w := w) (Below.refl _ w) rfl
        go_wp2_with (at_builtin; go_must (refine wpList_app (W := w) rfl _ _ rfl rfl f1 b1 rfl (hcp.below b1) ?_ ?_))
        · have := HF.out.2; simp; omega
        · intro v1 w2 f2 b2 _
          go_wp2_with fail
          go_ret
          rw [HF.out.1]
          exact ⟨_, rfl, f2, b2⟩

def isP (p : List Int) : Bool := decide (p.length ≤ 61) && decide (trimTo p p.length = p.length)

set_option maxHeartbeats 1000000 in
theorem isPolySpec {S : Nat → Prop} {v : Value} {l : List Int} {w : World} (h : RI S w v l) (hl : l.length ≤ 16777216) :
    Calls Try.prog 30 #[v] w fun e w' => e = .returned (.bool (isP l)) ∧ Below w.heap.size w w' := by
  obtain ⟨a, cap, rfl⟩ := h.form
  have HT : Hid ((trim l).length = trimTo l l.length) := Lib.hid (by have := trimTo_le l l.length; simp [trim]; omega)
  have H0 : Hid (¬ l.length ≤ 61 → isP l = false) := Lib.hid (fun h => by simp [isP]; omega)
  have H1 : Hid (l.length ≤ 61 → isP l = decide (trimTo l l.length = l.length)) := Lib.hid (fun h => by simp [isP, h])
  generalize isP l = res at *
  generalize hn : l.length = n at *
  have HN := Lib.hid hn
  clear hn
  generalize ht : trimTo l n = t at *
  clear ht
  go_enter Try.func30, Try.ntmps30
  by_cases h61 : n ≤ 61
  · have h61' : (n : Int) ≤ 61 := by omega
    go_wp2_with fail
    refine (trimPolySpec h (by rw [HN.out]; exact hl)).mono ?_
    rintro e w2 ⟨r, rfl, f, b⟩
    obtain ⟨a2, c2, rfl⟩ := f.form
    rw [HT.out]
    by_cases htn : t = n
    · have e0 : Hid (res = true) := Lib.hid (by rw [H1.out h61, htn]; simp)
      subst htn
      go_wp2_with fail
      go_ret
      exact ⟨ret_bool (by rw [e0.out]), b⟩
    · have e0 : Hid (res = false) := Lib.hid (by rw [H1.out h61]; simpa using htn)
      have htn' : ((t : Int) == (n : Int)) = false := by simp; omega
      go_wp2_with fail
      go_ret
      exact ⟨ret_bool (by rw [e0.out]), b⟩
  · have h61' : ¬ (n : Int) ≤ 61 := by omega
    have e0 : Hid (res = false) := Lib.hid (H0.out h61)
    go_wp2_with fail
    go_ret
    exact ⟨ret_bool (by rw [e0.out]), Below.refl _ _⟩

set_option maxHeartbeats 1000000 in
theorem isPolyImpl {S : Nat → Prop} {v : Value} {l : List Int} {w : World} (h : RI S w v l) (hl : l.length ≤ 16777216) :
    Calls Try.prog 35 #[v] w fun e w' => e = .returned (.bool (isP l)) ∧ ∃ m, w' = w.drewN m := by
  obtain ⟨a, cap, rfl⟩ := h.form
  have H0 : Hid (¬ l.length ≤ 61 → isP l = false) := Lib.hid (fun h => by simp [isP]; omega)
  have H1 : Hid (l.length ≤ 61 → isP l = decide (trimTo l l.length = l.length)) := Lib.hid (fun h => by simp [isP, h])
  generalize isP l = res at *
  generalize hn : l.length = n at *
  have HN := Lib.hid hn
  clear hn
  go_enter Try.func35, Try.ntmps35
  by_cases h61 : n ≤ 61
  · have h61' : (n : Int) ≤ 61 := by omega
    rcases n with _ | k
    · have e0 : Hid (res = true) := Lib.hid (by rw [H1.out h61]; rfl)
      go_wp2_with fail
      go_ret
      exact ⟨ret_bool (by rw [e0.out]), dr0⟩
    · obtain ⟨b, o, x, rfl, hc, hx⟩ := h.at (j := k) (by omega)
      have e1 : ((k + 1 : Nat) : Int) - 1 = (k : Int) := by omega
      have e2 : ((k : Int) + 1 == 0) = false := by simp; omega
      by_cases hx0 : x = 0
      · have e0 : Hid (res = false) := Lib.hid (by
          rw [H1.out h61]
          have : trimTo l (k + 1) = trimTo l k := by show (if num l k = 0 then trimTo l k else k + 1) = _; rw [if_pos (by rw [num_at hx.out]; exact hx0)]
          have h2 := trimTo_le l k
          simp; omega)
        subst hx0
        go_wp2_with fail
        go_ret
        exact ⟨ret_bool (by rw [e0.out]), dr0⟩
      · have e0 : Hid (res = true) := Lib.hid (by
          rw [H1.out h61]
          have : trimTo l (k + 1) = k + 1 := by show (if num l k = 0 then trimTo l k else k + 1) = _; rw [if_neg (by rw [num_at hx.out]; exact hx0)]
          simp [this])
        have hx2 : (x != 0) = true := by simpa using hx0
        go_wp2_with fail
        go_ret
        exact ⟨ret_bool (by rw [e0.out]), dr0⟩
  · have h61' : ¬ (n : Int) ≤ 61 := by omega
    have e0 : Hid (res = false) := Lib.hid (H0.out h61)
    go_wp2_with fail
    go_ret
    exact ⟨ret_bool (by rw [e0.out]), dr0⟩
end Go.Proofs.Ytfpjojlkodglnaa
