/- The laws' own helpers over lists of lists of numbers. Condition: sizes up to 2^24. -/
import Derived.Test.YteglcjembimegaaDoorLawInts
import Derived.Test.YteglcjembimegaaDoorFresh
namespace Go.Proofs.YteglcjembimegaaDoor
open Go.RowKit
set_option maxRecDepth 20000

def nilRows (n : Nat) : List It := List.replicate n (.inl [])

def total (L : List (List Int)) : Nat := L.length + (L.map List.length).sum

theorem sum_take {f : List Int → Nat} {L : List (List Int)} {k : Nat} {l : List Int} (h : L[k]? = some l) : ((L.take (k + 1)).map f).sum = ((L.take k).map f).sum + f l := by
  rw [take_step h]; simp

theorem sum_take_le {f : List Int → Nat} (L : List (List Int)) (k : Nat) : ((L.take k).map f).sum ≤ (L.map f).sum := by
  conv => rhs; rw [← List.take_append_drop k L]
  rw [List.map_append, List.sum_append]
  omega

theorem row_le {L : List (List Int)} {l : List Int} (h : l ∈ L) : L.length + l.length ≤ total L := by
  unfold total
  have : l.length ≤ (L.map List.length).sum := by
    induction L with
    | nil => cases h
    | cons x L ih =>
      rcases List.mem_cons.1 h with rfl | h
      · simp
      · have := ih h; simp; omega
  omega

/-- Consecutive numbers, list by list. -/
def marksS (k : Nat) : List (List Int) → List (List Int)
  | [] => []
  | l :: L => marks k l.length :: marksS (k + l.length) L

theorem marksS_take (L : List (List Int)) : ∀ (k j : Nat) (l : List Int), L[j]? = some l → marksS k (L.take (j + 1)) = marksS k (L.take j) ++ [marks (k + ((L.take j).map List.length).sum) l.length] := by
  induction L with
  | nil => intro k j l h; simp at h
  | cons x L ih =>
    intro k j l h
    cases j with
    | zero => simp at h; subst h; simp [marksS]
    | succ j =>
      simp at h
      have := ih (k + x.length) j l h
      simp only [List.take_succ_cons, marksS, List.map_cons, List.sum_cons, List.cons_append]
      rw [this, Nat.add_assoc]

theorem marksS_length (L : List (List Int)) : ∀ k, (marksS k L).length = L.length := by
  induction L with
  | nil => intro k; rfl
  | cons x L ih => intro k; simp [marksS, ih]

theorem marksS_at (L : List (List Int)) : ∀ (k j : Nat) (l : List Int), L[j]? = some l → (marksS k L)[j]? = some (marks (k + ((L.take j).map List.length).sum) l.length) := by
  induction L with
  | nil => intro k j l h; simp at h
  | cons x L ih =>
    intro k j l h
    cases j with
    | zero => simp at h; subst h; simp [marksS]
    | succ j =>
      simp at h
      simp only [marksS, List.getElem?_cons_succ, List.take_succ_cons, List.map_cons, List.sum_cons]
      rw [ih (k + x.length) j l h, Nat.add_assoc]

theorem total_marks (L : List (List Int)) : ∀ k, total (marksS k L) = total L := by
  unfold total
  induction L with
  | nil => intro k; rfl
  | cons x L ih => intro k; have := ih (k + x.length); simp [marksS, marks_length] at *; omega

theorem itRows_at {F : List (List Int)} {i : Nat} {l : List Int} (h : F[i]? = some l) : (itRows F)[i]? = some (.inl l) := by simp [itRows, h]

theorem marked_len {F : List (List Int)} {k i : Nat} (h : i ≤ F.length) : (marksS k (F.take i) ++ F.drop i).length = F.length := by
  rw [List.length_append, marksS_length]; simp; omega

theorem marked_at {F : List (List Int)} {k i : Nat} {l : List Int} (h : F[i]? = some l) : (marksS k (F.take i) ++ F.drop i)[i]? = some l := by
  have hi : i < F.length := by
    rcases Nat.lt_or_ge i F.length with h' | h'
    · exact h'
    · rw [List.getElem?_eq_none h'] at h; cases h
  have hml : (marksS k (F.take i)).length = i := by rw [marksS_length]; simp; omega
  rw [List.getElem?_append_right (by rw [hml]; exact Nat.le_refl _), hml]
  simp [h]

/-- One list more has been marked. -/
theorem FC.mark_step {S : Nat → Prop} {e : TypeId} {sz n g cap : Nat} {wr : World} {F : List (List Int)} {k i : Nat} {l : List Int}
    (hf : FC S e sz wr (.slice (some ⟨g, 0, none⟩) n cap) n (itRows (marksS k (F.take i) ++ F.drop i))) (he : e ≠ 3) (hx : F[i]? = some l) :
    ∃ r, wr.cell? ⟨g, i, none⟩ = some r ∧ FI S wr r l ∧ (∀ b, r.ownBlock = some b → S b) ∧ ∀ w2, Only (fun b => r.ownBlock = some b) wr w2 → FI S w2 r (marks (k + ((F.take i).map List.length).sum) l.length) →
      FC S e sz w2 (.slice (some ⟨g, 0, none⟩) n cap) n (itRows (marksS k (F.take (i + 1)) ++ F.drop (i + 1))) := by
  have hat := itRows_at (marked_at (k := k) hx)
  obtain ⟨r, hc, hr, _⟩ := hf.cell hat
  have hr : FI S wr r l := hr
  refine ⟨r, hc, hr, fun b hb => hr.2 b hb, fun w2 ho f2 => ?_⟩
  have hcell : ∃ vs, wr.ownsRow 0 e sz (.slice (some ⟨g, 0, none⟩) n cap) n vs ∧ vs[i]? = some r := by
    obtain ⟨vs, g1, g2, _⟩ := hf
    refine ⟨vs, g1, ?_⟩
    have hil : i < vs.length := by
      rw [g2]
      rcases Nat.lt_or_ge i (itRows (marksS k (F.take i) ++ F.drop i)).length with h' | h'
      · exact h'
      · rw [List.getElem?_eq_none h'] at hat; cases hat
    have := g1.cellAt i (by rw [← g1.1]; exact hil)
    rw [← this, hc]
  have e1 := FC.turned hf he hat hcell ho (fun _ => f2)
  have hi : i < F.length := by
    rcases Nat.lt_or_ge i F.length with h' | h'
    · exact h'
    · rw [List.getElem?_eq_none h'] at hx; cases hx
  have hm : (marksS k (F.take i)).length = i := by rw [marksS_length]; simp; omega
  rw [marksS_take F k i l hx]
  rw [drop_step hx] at e1
  have e3 : (itRows (marksS k (F.take i) ++ l :: F.drop (i + 1))).set i (.inl (marks (k + ((F.take i).map List.length).sum) l.length)) = itRows ((marksS k (F.take i) ++ [marks (k + ((F.take i).map List.length).sum) l.length]) ++ F.drop (i + 1)) := by
    simp only [itRows, List.map_append, List.map_cons, List.map_nil]
    rw [List.set_append_right _ _ (by simp [hm])]
    simp [hm]
  rw [e3] at e1
  exact e1

end Go.Proofs.YteglcjembimegaaDoor
