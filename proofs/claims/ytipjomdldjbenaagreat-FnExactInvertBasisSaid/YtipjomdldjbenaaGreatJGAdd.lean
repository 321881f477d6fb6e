/- A list of terms that may not be an element, by the program and by the reference. Condition: sizes up to 2^24. AddHecke of the reference. Condition: sizes up to 2^20. -/
import Derived.Test.YtipjomdldjbenaaGreatJGHecke
import Derived.Test.YtipjomdldjbenaaGreatJIsHecke
import Derived.Test.YtipjomdldjbenaaGreatJOpen
/-! A list of terms that may not be an element, by the program and by the reference. Condition: sizes up to 2^24. -/
namespace Go.Proofs.YtipjomdldjbenaaGreat
open Go.RowKit
set_option maxRecDepth 20000

theorem termW_in {w : World} {v : Value} {L : List Trm} (h : RL2 none Any RTermW w v L) : ∀ t ∈ L, InI t.2 := by
  intro x hx
  obtain ⟨a, cap, _, _, h⟩ := h
  rcases h with h | ⟨b, o, _, _, _, h⟩
  · subst h; cases hx
  · obtain ⟨j, hj⟩ := List.getElem?_of_mem hx
    obtain ⟨r, r', _, _, h2⟩ := h j x hj
    intro y hy
    have := RIW.wf h2.2 y hy
    simp only [I64, Lit.wf, Bool.and_eq_true, decide_eq_true_eq] at this
    rw [show IntKind.i64.min = -9223372036854775808 from rfl, show IntKind.i64.max = 9223372036854775807 from rfl] at this
    exact this

/-- The list, if it is an element. -/
def gd (c : List (List Int)) (L : List Trm) : List Trm := if isHk c L = true then L else []

set_option maxHeartbeats 1000000 in
theorem goodSpec {S : Nat → Prop} {u v : Value} {c : List (List Int)} {L : List Trm} {W w : World} (h : RII S w u c) (hf : FT (New W w) w v L) (hW : Below W.heap.size W w) (hl : total c ≤ 16777216) (hl' : totalT L ≤ 16777216) :
    Calls Tryz.prog 22 #[u, v] w fun e w' => ∃ a k, e = .returned (.tuple #[.slice a (gd c L).length k, .bool (isHk c L)]) ∧ FT (New W w') w' (.slice a (gd c L).length k) (gd c L) ∧ Below W.heap.size W w' := by
  have hH := isHeckeSpec h hf.any hl hl'
  obtain ⟨au, cu, rfl⟩ := h.form
  obtain ⟨a, cap, rfl, _⟩ := FC.form hf
  have HY : Hid (isHk c L = true → gd c L = L) := Lib.hid (fun h => by unfold gd; rw [if_pos h])
  have HN : Hid (isHk c L = false → gd c L = []) := Lib.hid (fun h => by unfold gd; rw [if_neg (by rw [h]; simp)])
  generalize hg : gd c L = G at *
  clear hg
  generalize isHk c L = q at *
  cases q
  · have E0 := Lib.hid (HN.out rfl)
    go_enter Tryz.func22, Tryz.ntmps22
    go_wp2_with fail
    refine hH.mono ?_
    rintro e w1 ⟨rfl, b1⟩
    have b2 := Keeps.step hW b1
    go_wp2_with fail
    go_ret2
    rw [E0.out]
    exact ⟨_, _, rfl, FT.none0 b2, b2.alloc b2.size _⟩
  · have E0 := Lib.hid (HY.out rfl)
    go_enter Tryz.func22, Tryz.ntmps22
    go_wp2_with fail
    refine hH.mono ?_
    rintro e w1 ⟨rfl, b1⟩
    have b2 := Keeps.step hW b1
    have hf1 := FC.grow hf b1
    go_wp2_with fail
    go_ret2
    rw [E0.out]
    exact ⟨_, _, rfl, hf1, b2⟩

set_option maxHeartbeats 1000000 in
theorem checkedImpl {S : Nat → Prop} {u v : Value} {c : List (List Int)} {L : List Trm} {W w : World} (h : RII S w u c) (hf : FT (New W w) w v L) (hW : Below W.heap.size W w) (hl : total c ≤ 16777216) (hl' : totalT L ≤ 16777216) :
    Calls Tryz.prog 27 #[u, v] w fun e w' => ∃ a k, e = .returned (.tuple #[.slice a (gd c L).length k, .bool (isHk c L)]) ∧ FT (New W w') w' (.slice a (gd c L).length k) (gd c L) ∧ Below W.heap.size W w' := by
  have hH := isHeckeImpl h hf.any hl hl'
  obtain ⟨au, cu, rfl⟩ := h.form
  obtain ⟨a, cap, rfl, _⟩ := FC.form hf
  have HY : Hid (isHk c L = true → gd c L = L) := Lib.hid (fun h => by unfold gd; rw [if_pos h])
  have HN : Hid (isHk c L = false → gd c L = []) := Lib.hid (fun h => by unfold gd; rw [if_neg (by rw [h]; simp)])
  generalize hg : gd c L = G at *
  clear hg
  generalize isHk c L = q at *
  cases q
  · have E0 := Lib.hid (HN.out rfl)
    go_enter Tryz.func27, Tryz.ntmps27
    go_wp2_with fail
    refine hH.mono ?_
    rintro e w1 ⟨rfl, b1⟩
    have b2 := Keeps.step hW b1
    go_wp2_with fail
    go_ret2
    rw [E0.out]
    exact ⟨_, _, rfl, FT.none0 b2, b2.alloc b2.size _⟩
  · have E0 := Lib.hid (HY.out rfl)
    go_enter Tryz.func27, Tryz.ntmps27
    go_wp2_with fail
    refine hH.mono ?_
    rintro e w1 ⟨rfl, b1⟩
    have b2 := Keeps.step hW b1
    have hf1 := FC.grow hf b1
    go_wp2_with fail
    go_ret2
    rw [E0.out]
    exact ⟨_, _, rfl, hf1, b2⟩

/-- The terms of a and of b added one by one; what the sum is. -/
def adB (c : List (List Int)) (A B : List Trm) : Bool := isHk c A && (isHk c B && isHk c (puts (A ++ B)))
def adR (c : List (List Int)) (A B : List Trm) : List Trm := if isHk c A = true then if isHk c B = true then gd c (puts (A ++ B)) else [] else []
theorem ad_no1 {c : List (List Int)} {A B : List Trm} (h : isHk c A = false) : adB c A B = false ∧ adR c A B = [] := by unfold adB adR; rw [h]; exact ⟨rfl, rfl⟩
theorem ad_no2 {c : List (List Int)} {A B : List Trm} (h1 : isHk c A = true) (h : isHk c B = false) : adB c A B = false ∧ adR c A B = [] := by unfold adB adR; rw [h1, h]; exact ⟨rfl, rfl⟩
theorem ad_yes {c : List (List Int)} {A B : List Trm} (h1 : isHk c A = true) (h : isHk c B = true) : adB c A B = isHk c (puts (A ++ B)) ∧ adR c A B = gd c (puts (A ++ B)) := by unfold adB adR; rw [h1, h]; exact ⟨rfl, rfl⟩
theorem gd_total (c : List (List Int)) (L : List Trm) : totalT (gd c L) ≤ 4620 := by
  unfold gd
  by_cases h : isHk c L = true
  · rw [if_pos h]; exact (isHk_parts h).total
  · rw [if_neg h]; simp [totalT, flatT]
theorem adR_total (c : List (List Int)) (A B : List Trm) : totalT (adR c A B) ≤ 4620 := by
  unfold adR
  split
  · split
    · exact gd_total _ _
    · simp [totalT, flatT]
  · simp [totalT, flatT]
/-- What holds of the terms of two elements. -/
theorem two_ok {c : List (List Int)} {A B : List Trm} (h1 : Hk c A) (h2 : Hk c B) : (∀ t ∈ A ++ B, t.1.length ≤ 15 ∧ t.2.length ≤ 61 ∧ Trd t.2) ∧ (A ++ B).length ≤ 120 := by
  refine ⟨fun t ht => ?_, by rw [List.length_append]; have := h1.len; have := h2.len; omega⟩
  rcases List.mem_append.1 ht with ht | ht
  · exact ⟨(h1.word ht).1, h1.poly t ht, h1.tr t ht⟩
  · exact ⟨(h2.word ht).1, h2.poly t ht, h2.tr t ht⟩
theorem two_in {A B : List Trm} (h1 : ∀ t ∈ A, InI t.2) (h2 : ∀ t ∈ B, InI t.2) : ∀ t ∈ A ++ B, InI t.2 := fun t ht => by
  rcases List.mem_append.1 ht with ht | ht
  · exact h1 t ht
  · exact h2 t ht
/-- Sizes of sums. -/
theorem puts_small {L : List Trm} {n : Nat} (hn : L.length ≤ n) (h : ∀ t ∈ L, t.1.length ≤ 31 ∧ t.2.length ≤ 63) : (puts L).length ≤ n ∧ (∀ t ∈ puts L, t.1.length ≤ 31 ∧ t.2.length ≤ 63) ∧ totalT (puts L) ≤ n * 95 := by
  obtain ⟨a1, a2⟩ := puts_all (A := 31) (B := 63) _ L rfl h
  have h1 := totalT_le a2
  have h2 : (puts L).length * (1 + 31 + 63) ≤ n * 95 := Nat.mul_le_mul (by omega) (by omega)
  exact ⟨by omega, a2, by omega⟩
end Go.Proofs.YtipjomdldjbenaaGreat

/-! AddHecke of the reference. Condition: sizes up to 2^20. -/
namespace Go.Proofs.YtipjomdldjbenaaGreat
open Go.RowKit
set_option maxRecDepth 20000

/-- What a loop that adds the terms of D one by one needs. -/
structure AddP (D : List Trm) : Prop where
  step : ∀ (k : Nat) (x : Trm), D[k]? = some x → endP x.1 x.2 (putF x.1 x.2 (puts (D.take k))) = puts (D.take (k + 1))
  len : ∀ k, (puts (D.take k)).length ≤ 1000 ∧ ∀ t ∈ puts (D.take k), t.1.length ≤ 1048576 ∧ t.2.length ≤ 1048576 ∧ InI t.2
  elt : ∀ (k : Nat) (x : Trm), D[k]? = some x → x.1.length ≤ 1048576 ∧ x.2.length ≤ 1048576 ∧ InI x.2
theorem addP_of {D : List Trm} (hD : D.length ≤ 1000) (h : ∀ t ∈ D, t.1.length ≤ 31 ∧ t.2.length ≤ 63 ∧ Trd t.2 ∧ InI t.2) : AddP D := by
  have htk : ∀ k, ∀ t ∈ D.take k, Trd t.2 ∧ InI t.2 := fun k t ht => (h t (List.mem_of_mem_take ht)).2.2
  refine ⟨fun k x hx => ?_, fun k => ?_, fun k x hx => ?_⟩
  · rw [putF_eq (puts_can _ _ rfl (htk k)).1, puts_step hx]
  · have h1 := puts_small (L := D.take k) (n := 1000) (by rw [List.length_take]; exact Nat.le_trans (Nat.min_le_right _ _) hD) (fun t ht => by have := h t (List.mem_of_mem_take ht); exact ⟨this.1, this.2.1⟩)
    exact ⟨h1.1, fun t ht => by have := h1.2.1 t ht; exact ⟨by omega, by omega, (puts_can _ _ rfl (htk k)).1.inn t ht⟩⟩
  · have := h x (List.mem_of_getElem? hx)
    exact ⟨by omega, by omega, this.2.2.2⟩

end Go.Proofs.YtipjomdldjbenaaGreat
