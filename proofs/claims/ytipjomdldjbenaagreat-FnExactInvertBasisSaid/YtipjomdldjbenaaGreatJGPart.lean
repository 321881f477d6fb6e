/- Points of a diagram that are connected; parts. Plain lists. The points beside a point, by the program and by the reference. Condition: sizes up to 2^24. -/
import Derived.Test.YtipjomdldjbenaaGreatJGCart
/-! Points of a diagram that are connected; parts. Plain lists. -/
namespace Go.Proofs.YtipjomdldjbenaaGreat
open Go.RowKit

/-- The points beside one, in ascending order. -/
def nbr (c : List (List Int)) (i : Nat) : List Nat := (List.range c.length).filter fun j => decide (j ≠ i) && decide (ent c i j ≠ 0)
theorem nbr_lt {c : List (List Int)} {i j : Nat} (h : j ∈ nbr c i) : j < c.length := List.mem_range.1 (List.mem_filter.1 h).1
/-- What has been seen, and the points found so far. -/
abbrev Sn := List Bool × List Nat
def bStep (st : Sn) (j : Nat) : Sn := if (st.1[j]?).getD true = true then st else (st.1.set j true, st.2 ++ [j])
def unseen (s : List Bool) : Nat := s.count false
theorem count_set {s : List Bool} {j : Nat} (h : s[j]? = some false) : (s.set j true).count false + 1 = s.count false := by
  induction s generalizing j with
  | nil => simp at h
  | cons a s ih =>
    cases j with
    | zero => simp at h; subst h; simp
    | succ j =>
      have := ih (j := j) (by simpa using h)
      simp only [List.set_cons_succ, List.count_cons]
      omega
/-- What stays of it all: n marks, the points are points, and each point found is one unseen less. -/
structure SnOk (n : Nat) (st : Sn) : Prop where
  len : st.1.length = n
  lt : ∀ j ∈ st.2, j < n
  cnt : st.2.length + unseen st.1 ≤ n
theorem SnOk.le {n : Nat} {st : Sn} (h : SnOk n st) : st.2.length ≤ n := by have := h.cnt; omega
theorem bStep_ok {n : Nat} {st : Sn} {j : Nat} (h : SnOk n st) (hj : j < n) : SnOk n (bStep st j) ∧ st.2.length ≤ (bStep st j).2.length := by
  unfold bStep
  split
  · exact ⟨h, Nat.le_refl _⟩
  · rename_i hs
    have hjl : j < st.1.length := by rw [h.len]; exact hj
    have hv : st.1[j]? = some false := by
      rw [List.getElem?_eq_getElem hjl] at hs ⊢
      simpa using hs
    have := count_set hv
    refine ⟨⟨by simpa using h.len, fun i hi => ?_, ?_⟩, by simp⟩
    · rcases List.mem_append.1 hi with hi | hi
      · exact h.lt i hi
      · rw [List.mem_singleton] at hi; subst hi; exact hj
    · have := h.cnt
      unfold unseen at *
      simp only [List.length_append, List.length_singleton]
      omega
theorem bSteps_ok {n : Nat} : ∀ {L : List Nat} {st : Sn}, SnOk n st → (∀ j ∈ L, j < n) → SnOk n (L.foldl bStep st) ∧ st.2.length ≤ (L.foldl bStep st).2.length
  | [], st, h, _ => ⟨h, Nat.le_refl _⟩
  | j :: L, st, h, hL => by
    obtain ⟨a, b⟩ := bStep_ok h (hL j (List.mem_cons_self ..))
    obtain ⟨d, e⟩ := bSteps_ok (L := L) a (fun i hi => hL i (List.mem_cons_of_mem _ hi))
    exact ⟨d, Nat.le_trans b e⟩
/-- The search from the k-th point found on, f rounds at most. -/
def bfsP (c : List (List Int)) : Nat → Nat → Sn → Sn
  | 0, _, st => st
  | f + 1, k, st => match st.2[k]? with
    | none => st
    | some i => bfsP c f (k + 1) ((nbr c i).foldl bStep st)
theorem bfsP_step {c : List (List Int)} {f k i : Nat} {st : Sn} (h : st.2[k]? = some i) : bfsP c (f + 1) k st = bfsP c f (k + 1) ((nbr c i).foldl bStep st) := by simp only [bfsP, h]
theorem bfsP_end {c : List (List Int)} {f k : Nat} {st : Sn} (h : st.2.length ≤ k) : bfsP c f k st = st := by
  cases f with
  | zero => rfl
  | succ f => simp only [bfsP, List.getElem?_eq_none h]
def start (_n i : Nat) (s : List Bool) : Sn := (s.set i true, [i])
theorem start_ok {n i : Nat} {s : List Bool} (hs : s.length = n) (hi : s[i]? = some false) : SnOk n (start n i s) := by
  have h1 := count_set hi
  have h2 : s.count false ≤ s.length := List.count_le_length
  have h3 := (List.getElem?_eq_some_iff.1 hi).1
  refine ⟨by simp [start, hs], fun j hj => ?_, ?_⟩
  · simp only [start, List.mem_singleton] at hj; omega
  · simp only [start, unseen, List.length_singleton]; omega
/-- All that is connected with a point, of what is not seen. -/
def foundP (c : List (List Int)) (i : Nat) (s : List Bool) : Sn := bfsP c (c.length + 1) 0 (start c.length i s)
/-- The part of a point, as the reference makes it. -/
def partS (c : List (List Int)) (i : Nat) : List Nat := (List.range c.length).filter fun k => ((foundP c i (List.replicate c.length false)).1[k]?).getD false
def partsTo (c : List (List Int)) (k : Nat) : List (List Nat) := (List.range k).filterMap fun i => if (partS c i).head? = some i then some (partS c i) else none
def partsS (c : List (List Int)) : List (List Nat) := partsTo c c.length
theorem partsTo_step (c : List (List Int)) (k : Nat) : partsTo c (k + 1) = partsTo c k ++ if (partS c k).head? = some k then [partS c k] else [] := by
  unfold partsTo
  rw [List.range_succ, List.filterMap_append]
  congr 1
  by_cases h : (partS c k).head? = some k
  · simp [h]
  · simp [h]
theorem partsTo_len (c : List (List Int)) (k : Nat) : (partsTo c k).length ≤ k := by
  unfold partsTo
  exact Nat.le_trans (List.length_filterMap_le _ _) (by simp)
/-- Marks stay. -/
theorem bStep_mono {st : Sn} {x j : Nat} (h : st.1[j]? = some true) : (bStep st x).1[j]? = some true := by
  unfold bStep
  split
  · exact h
  · simp only [List.getElem?_set]
    split
    · rename_i e
      subst e
      rw [if_pos (List.getElem?_eq_some_iff.1 h).1]
    · exact h
theorem bSteps_mono {j : Nat} : ∀ {L : List Nat} {st : Sn}, st.1[j]? = some true → (L.foldl bStep st).1[j]? = some true
  | [], _, h => h
  | _ :: L, _, h => bSteps_mono (L := L) (bStep_mono h)
theorem bfsP_mono {c : List (List Int)} {j : Nat} : ∀ (f k : Nat) {st : Sn}, st.1[j]? = some true → (bfsP c f k st).1[j]? = some true
  | 0, _, _, h => h
  | f + 1, k, st, h => by
    unfold bfsP
    split
    · exact h
    · exact bfsP_mono f (k + 1) (bSteps_mono h)
theorem part_self {c : List (List Int)} {i : Nat} (hi : i < c.length) : i ∈ partS c i := by
  unfold partS
  refine List.mem_filter.2 ⟨List.mem_range.2 hi, ?_⟩
  have : (foundP c i (List.replicate c.length false)).1[i]? = some true := bfsP_mono _ _ (by simp [start, hi])
  rw [this]; rfl
theorem part_lt {c : List (List Int)} {i j : Nat} (h : j ∈ partS c i) : j < c.length := List.mem_range.1 (List.mem_filter.1 h).1
/-- Ascending order. -/
def insN (x : Nat) : List Nat → List Nat
  | [] => [x]
  | y :: l => if x ≤ y then x :: y :: l else y :: insN x l
def srtN : List Nat → List Nat
  | [] => []
  | x :: l => insN x (srtN l)
/-- The parts, as the program makes them. -/
def partsStep (c : List (List Int)) (st : List Bool × List (List Nat)) (i : Nat) : List Bool × List (List Nat) :=
  if (st.1[i]?).getD true = true then st else ((foundP c i st.1).1, st.2 ++ [srtN (foundP c i st.1).2])
def partsP (c : List (List Int)) : List (List Nat) := ((List.range c.length).foldl (partsStep c) (List.replicate c.length false, [])).2

theorem insN_perm (x : Nat) : ∀ l, (insN x l).Perm (x :: l)
  | [] => List.Perm.refl _
  | y :: l => by
    unfold insN
    split
    · exact List.Perm.refl _
    · exact ((insN_perm x l).cons y).trans (List.Perm.swap x y l)
theorem srtN_perm : ∀ l, (srtN l).Perm l
  | [] => List.Perm.refl _
  | x :: l => (insN_perm x (srtN l)).trans ((srtN_perm l).cons x)
theorem insN_srt {x : Nat} : ∀ {l : List Nat}, l.Pairwise (· ≤ ·) → (insN x l).Pairwise (· ≤ ·)
  | [], _ => List.pairwise_singleton _ _
  | y :: l, h => by
    unfold insN
    have hc := List.pairwise_cons.1 h
    split
    · rename_i hxy
      refine List.pairwise_cons.2 ⟨fun z hz => ?_, h⟩
      rcases List.mem_cons.1 hz with rfl | hz
      · exact hxy
      · exact Nat.le_trans hxy (hc.1 z hz)
    · refine List.pairwise_cons.2 ⟨fun z hz => ?_, insN_srt hc.2⟩
      rcases List.mem_cons.1 ((insN_perm x l).mem_iff.1 hz) with rfl | hz
      · omega
      · exact hc.1 z hz
theorem srtN_srt : ∀ l, (srtN l).Pairwise (· ≤ ·)
  | [] => List.Pairwise.nil
  | _x :: l => insN_srt (srtN_srt l)
theorem srt_unique : ∀ {l m : List Nat}, l.Perm m → l.Pairwise (· ≤ ·) → m.Pairwise (· ≤ ·) → l = m
  | [], m, h, _, _ => by rw [List.nil_perm.1 h]
  | x :: l, m, h, hl, hm => by
    cases m with
    | nil => simp at h
    | cons y m =>
      have h1 := List.pairwise_cons.1 hl
      have h2 := List.pairwise_cons.1 hm
      have hx : x ∈ y :: m := h.mem_iff.1 (List.mem_cons_self ..)
      have hy : y ∈ x :: l := h.mem_iff.2 (List.mem_cons_self ..)
      have e : x = y := by
        rcases List.mem_cons.1 hx with e | hx
        · exact e
        · rcases List.mem_cons.1 hy with e | hy
          · exact e.symm
          · have := h2.1 x hx; have := h1.1 y hy; omega
      subst e
      rw [srt_unique (List.perm_cons x |>.1 h) h1.2 h2.2]
end Go.Proofs.YtipjomdldjbenaaGreat

/-! The points beside a point, by the program and by the reference. Condition: sizes up to 2^24. -/
namespace Go.Proofs.YtipjomdldjbenaaGreat
open Go.RowKit
set_option maxRecDepth 20000

abbrev iL (l : List Nat) : List Int := l.map fun (j : Nat) => (j : Int)
def nbrTo (c : List (List Int)) (i k : Nat) : List Nat := (List.range k).filter fun j => decide (j ≠ i) && decide (ent c i j ≠ 0)
theorem nbrTo_step (c : List (List Int)) (i k : Nat) : iL (nbrTo c i (k + 1)) = iL (nbrTo c i k) ++ if k ≠ i ∧ ent c i k ≠ 0 then [(k : Int)] else [] := by
  unfold nbrTo iL
  rw [List.range_succ, List.filter_append, List.map_append]
  congr 1
  by_cases h1 : k = i
  · simp [h1]
  · by_cases h2 : ent c i k = 0
    · simp [h1, h2]
    · simp [h1, h2]
theorem nbrTo_len (c : List (List Int)) (i k : Nat) : (iL (nbrTo c i k)).length ≤ k := by
  unfold nbrTo iL
  rw [List.length_map]
  exact Nat.le_trans (List.length_filter_le _ _) (by simp)

end Go.Proofs.YtipjomdldjbenaaGreat
