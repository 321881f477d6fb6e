/- R-polynomials: their lengths and numbers. Plain. No condition. -/
import Derived.Test.YteglcjembimegaaRpolI
namespace Go.Proofs.Yteglcjembimegaa
open Go.RowKit
set_option maxRecDepth 20000

theorem fresh_one {W w w1 : World} {y : Int} (hw : Below W.heap.size W w) (h : w1 = w.alloc (.cells #[.int .i64 y] 3)) : FI (New W w1) w1 (.slice (some ⟨w.heap.size, 0, none⟩) 1 1) [y] ∧ Below W.heap.size W w1 := by
  subst h
  refine ⟨(FI.of_row (w := w) (World.ownsRow_lit (base := w.heap.size) (e := 3) (size := 1) w #[.int .i64 y] 1 (Nat.le_refl _) (by unfold maxLen; omega) rfl) (Nat.le_refl _) rfl rfl).mono (fun b hb => ⟨Nat.le_trans hw.size hb.1, hb.2⟩), hw.alloc hw.size _⟩

theorem shI_len (p : List Int) : (shI p).length ≤ p.length + 1 := by
  unfold shI
  have := trim_le p
  by_cases h : trim p = []
  · rw [if_pos h]; simp
  · rw [if_neg h]; simp; omega
theorem negL_len (l : List Int) : (negL l).length = l.length := by simp [negL]
theorem subP_le (a b : List Int) : (subP a b).length ≤ max a.length b.length := by
  have := addP_le a (negL b)
  rw [negL_len] at this
  exact this
theorem subP_in (a b : List Int) : InI (subP a b) := addP_in a (negL b)
theorem shI_in {p : List Int} (h : InI p) : InI (shI p) := by
  unfold shI
  by_cases h0 : trim p = []
  · rw [if_pos h0]; intro x hx; cases hx
  · rw [if_neg h0]
    intro x hx
    rcases List.mem_cons.1 hx with rfl | hx
    · exact ⟨by decide, by decide⟩
    · exact h x (trim_mem hx)
theorem one_in : InI [1] := fun x hx => by simp at hx; subst hx; exact ⟨by decide, by decide⟩
theorem nil_in : InI [] := fun x hx => by cases hx

theorem rI_len (c : List (List Int)) : ∀ (v : List Int) (mu : List Int), (rI c mu v).length ≤ v.length + 1
  | [], mu => by unfold rI; split <;> simp
  | s :: v, mu => by
    have h1 := rI_len c v (refl c s.toNat mu)
    have h2 := rI_len c v mu
    unfold rI
    split
    · simp; omega
    · have a1 := addP_le (shI (rI c (refl c s.toNat mu) v)) (subP (shI (rI c mu v)) (rI c mu v))
      have a2 := subP_le (shI (rI c mu v)) (rI c mu v)
      have a3 := shI_len (rI c (refl c s.toNat mu) v)
      have a4 := shI_len (rI c mu v)
      simp
      omega
theorem rI_in (c : List (List Int)) : ∀ (v : List Int) (mu : List Int), InI (rI c mu v)
  | [], mu => by unfold rI; split; exact one_in; exact nil_in
  | s :: v, mu => by
    unfold rI
    split
    · exact rI_in c v _
    · exact addP_in _ _
theorem rS_len (c : List (List Int)) : ∀ (v : List Int) (mu : List Int), (rS c mu v).length ≤ v.length + 1
  | [], mu => by unfold rS; split <;> simp
  | s :: v, mu => by
    have h1 := rS_len c v (refl c s.toNat mu)
    have h2 := rS_len c v mu
    unfold rS
    split
    · split
      · simp; omega
      · rw [shift_same, shift_same]
        have a1 := addP_le (shI (rS c (refl c s.toNat mu) v)) (subP (shI (rS c mu v)) (rS c mu v))
        have a2 := subP_le (shI (rS c mu v)) (rS c mu v)
        have a3 := shI_len (rS c (refl c s.toNat mu) v)
        have a4 := shI_len (rS c mu v)
        simp
        omega
    · simp
theorem rS_in (c : List (List Int)) : ∀ (v : List Int) (mu : List Int), InI (rS c mu v)
  | [], mu => by unfold rS; split; exact one_in; exact nil_in
  | s :: v, mu => by
    unfold rS
    split
    · split
      · exact rS_in c v _
      · exact addP_in _ _
    · exact nil_in
theorem shiftP_in {p : List Int} (h : InI p) : InI (shiftP p 1) := by rw [shift_same]; exact shI_in h
theorem shiftP_len (p : List Int) : (shiftP p 1).length ≤ p.length + 1 := by rw [shift_same]; exact shI_len p
end Go.Proofs.Yteglcjembimegaa
