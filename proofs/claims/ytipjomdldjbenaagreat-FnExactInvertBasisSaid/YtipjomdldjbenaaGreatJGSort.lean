/- Lists that are put in order by exchanges: what merging in place needs. Plain. No condition. A row of terms of the call's own, put in order by exchanges. No condition. Putting terms in order by their words: insertion. Condition: at most 2^20 terms, words of at most 2^24 letters. Putting terms in order by their words: merging in place. Condition: at most 2^20 terms, words of at most 2^24 letters. Putting terms in order by their words: merging in place, two runs of two elements or more. Condition: at most 2^20 terms, words of at most 2^24 letters. Putting terms in order by their words: the library's stable sort. Condition: at most 2^20 terms, words of at most 2^24 letters. -/
import Derived.Test.YtipjomdldjbenaaGreatJGBase
import Derived.Test.YtipjomdldjbenaaGreatJGCart
import Derived.Test.YtipjomdldjbenaaGreatJAppS
import Derived.Test.YtipjomdldjbenaaGreatJGWords
import Derived.Test.YtipjomdldjbenaaGreatJGrow
import Derived.RegionTactic
import Derived.BigRegion
import Derived.Shelf.RegionOpenPlain
import Derived.Deep.RegionHeld3
/-! Lists that are put in order by exchanges: what merging in place needs. Plain. No condition. -/
namespace Go.Proofs.YtipjomdldjbenaaGreat
namespace Mrg
set_option maxRecDepth 20000

section
variable {α : Type}
theorem two_set (P Q R : List α) (x y : α) :
    (P ++ x :: (Q ++ y :: R))[P.length]? = some x ∧ (P ++ x :: (Q ++ y :: R))[P.length + 1 + Q.length]? = some y ∧
    ((P ++ x :: (Q ++ y :: R)).set P.length y).set (P.length + 1 + Q.length) x = P ++ y :: (Q ++ x :: R) := by
  refine ⟨by simp, ?_, ?_⟩
  · rw [List.getElem?_append_right (by omega), show P.length + 1 + Q.length - P.length = Q.length + 1 by omega, List.getElem?_cons_succ, List.getElem?_append_right (Nat.le_refl _)]
    simp
  · rw [List.set_append_right _ _ (Nat.le_refl _), Nat.sub_self, List.set_cons_zero, List.set_append_right _ _ (by omega), show P.length + 1 + Q.length - P.length = Q.length + 1 by omega, List.set_cons_succ, List.set_append_right _ _ (Nat.le_refl _), Nat.sub_self, List.set_cons_zero]

/-- Exchanging two runs: what stands after k exchanges. -/
def swK (A B C D E : List α) (k : Nat) : List α := A ++ ((D.take k ++ B.drop k) ++ (C ++ ((B.take k ++ D.drop k) ++ E)))
theorem swK_len {A B C D E : List α} {k : Nat} (h : B.length = D.length) : (swK A B C D E k).length = A.length + B.length + C.length + D.length + E.length := by
  simp [swK]; omega
theorem swK_zero (A B C D E : List α) : swK A B C D E 0 = A ++ (B ++ (C ++ (D ++ E))) := by simp [swK]
theorem swK_end {A B C D E : List α} (h : B.length = D.length) : swK A B C D E B.length = A ++ (D ++ (C ++ (B ++ E))) := by
  unfold swK
  rw [List.take_length, List.drop_length, h, List.take_length, List.drop_length]
  simp
theorem swK_step {A B C D E : List α} {k : Nat} (h : B.length = D.length) (hk : k < B.length) : ∃ x y, (swK A B C D E k)[A.length + k]? = some x ∧ (swK A B C D E k)[A.length + B.length + C.length + k]? = some y ∧
    ((swK A B C D E k).set (A.length + k) y).set (A.length + B.length + C.length + k) x = swK A B C D E (k + 1) := by
  have hx : B[k]? = some B[k] := by simp [hk]
  have hy : D[k]? = some (D[k]'(by omega)) := by simp [show k < D.length by omega]
  refine ⟨B[k], D[k]'(by omega), ?_⟩
  have e0 : swK A B C D E k = (A ++ D.take k) ++ B[k] :: ((B.drop (k + 1) ++ (C ++ B.take k)) ++ D[k]'(by omega) :: (D.drop (k + 1) ++ E)) := by
    unfold swK
    rw [drop_step hx, drop_step hy]
    simp only [List.append_assoc, List.cons_append, List.nil_append]
  have e1 : swK A B C D E (k + 1) = (A ++ D.take k) ++ D[k]'(by omega) :: ((B.drop (k + 1) ++ (C ++ B.take k)) ++ B[k] :: (D.drop (k + 1) ++ E)) := by
    unfold swK
    rw [take_step hx, take_step hy]
    simp only [List.append_assoc, List.cons_append, List.nil_append]
  have l1 : (A ++ D.take k).length = A.length + k := by simp; omega
  have l2 : (A ++ D.take k).length + 1 + (B.drop (k + 1) ++ (C ++ B.take k)).length = A.length + B.length + C.length + k := by simp; omega
  have := two_set (A ++ D.take k) (B.drop (k + 1) ++ (C ++ B.take k)) (D.drop (k + 1) ++ E) B[k] (D[k]'(by omega))
  rw [l2, l1] at this
  rw [e0, e1]
  exact this

/-- One element among others, at place t. -/
def ins (Y : List α) (t : Nat) (x : α) : List α := Y.take t ++ x :: Y.drop t
theorem ins_len (Y : List α) (t : Nat) (x : α) : (ins Y t x).length = Y.length + 1 := by simp [ins]; omega
theorem ins_perm (Y : List α) (t : Nat) (x : α) : (ins Y t x).Perm (x :: Y) := by
  unfold ins
  refine List.perm_middle.trans ?_
  rw [List.take_append_drop]
theorem ins_zero (Y : List α) (x : α) : ins Y 0 x = x :: Y := by simp [ins]
theorem ins_end (Y : List α) (x : α) : ins Y Y.length x = Y ++ [x] := by simp [ins]
theorem ins_step (A Z : List α) {Y : List α} {t : Nat} {x y : α} (hy : Y[t]? = some y) : (A ++ (ins Y t x ++ Z))[A.length + t]? = some x ∧ (A ++ (ins Y t x ++ Z))[A.length + t + 1]? = some y ∧
    ((A ++ (ins Y t x ++ Z)).set (A.length + t) y).set (A.length + t + 1) x = A ++ (ins Y (t + 1) x ++ Z) ∧ ((A ++ (ins Y (t + 1) x ++ Z)).set (A.length + t + 1) y).set (A.length + t) x = A ++ (ins Y t x ++ Z) ∧
    (A ++ (ins Y (t + 1) x ++ Z))[A.length + t]? = some y ∧ (A ++ (ins Y (t + 1) x ++ Z))[A.length + t + 1]? = some x := by
  have ht : t < Y.length := (List.getElem?_eq_some_iff.1 hy).1
  have e0 : A ++ (ins Y t x ++ Z) = (A ++ Y.take t) ++ x :: ([] ++ y :: (Y.drop (t + 1) ++ Z)) := by
    unfold ins
    rw [drop_step hy]
    simp
  have e1 : A ++ (ins Y (t + 1) x ++ Z) = (A ++ Y.take t) ++ y :: ([] ++ x :: (Y.drop (t + 1) ++ Z)) := by
    unfold ins
    rw [take_step hy]
    simp
  have l1 : (A ++ Y.take t).length = A.length + t := by simp; omega
  have h1 := two_set (A ++ Y.take t) [] (Y.drop (t + 1) ++ Z) x y
  have h2 := two_set (A ++ Y.take t) [] (Y.drop (t + 1) ++ Z) y x
  rw [l1] at h1 h2
  rw [← e0, ← e1] at h1 h2
  simp only [List.length_nil, Nat.add_zero] at h1 h2
  refine ⟨h1.1, h1.2.1, h1.2.2, ?_, h2.1, h2.2.1⟩
  rw [List.set_comm _ _ (by omega)]
  exact h2.2.2

variable {le : α → α → Prop}
abbrev Srt (le : α → α → Prop) (L : List α) : Prop := L.Pairwise le
theorem srt_get {L : List α} (h : Srt le L) {i j : Nat} {x y : α} (hx : L[i]? = some x) (hy : L[j]? = some y) (hij : i < j) : le x y := by
  have hi := List.getElem?_eq_some_iff.1 hx
  have hj := List.getElem?_eq_some_iff.1 hy
  obtain ⟨h1, rfl⟩ := hi
  obtain ⟨h2, rfl⟩ := hj
  exact List.pairwise_iff_getElem.1 h i j h1 h2 hij
theorem mem_take {L : List α} {k : Nat} {a : α} (h : a ∈ L.take k) : ∃ i, i < k ∧ L[i]? = some a := by
  obtain ⟨i, hi⟩ := List.getElem?_of_mem h
  have hik : i < k := by
    rcases Nat.lt_or_ge i k with h | h
    · exact h
    · rw [List.getElem?_eq_none (by simp; omega)] at hi; cases hi
  exact ⟨i, hik, by rw [List.getElem?_take, if_pos hik] at hi; exact hi⟩
theorem mem_drop {L : List α} {k : Nat} {a : α} (h : a ∈ L.drop k) : ∃ i, k ≤ i ∧ L[i]? = some a := by
  obtain ⟨i, hi⟩ := List.getElem?_of_mem h
  rw [List.getElem?_drop] at hi
  exact ⟨k + i, by omega, hi⟩

theorem srt_take {L : List α} (h : Srt le L) (k : Nat) : Srt le (L.take k) := h.sublist (List.take_sublist k L)
theorem srt_drop {L : List α} (h : Srt le L) (k : Nat) : Srt le (L.drop k) := h.sublist (List.drop_sublist k L)

variable (trans : ∀ a b c, le a b → le b c → le a c)
include trans
theorem cross {X Y : List α} (hX : Srt le X) (hY : Srt le Y) {i j : Nat} {u v : α} (hu : X[i]? = some u) (hv : Y[j]? = some v) (h : le u v) : ∀ a ∈ X.take (i + 1), ∀ b ∈ Y.drop j, le a b := by
  intro a ha b hb
  obtain ⟨p, hp, hpa⟩ := mem_take ha
  obtain ⟨q, hq, hqb⟩ := mem_drop hb
  have h1 : a = u ∨ le a u := by
    rcases Nat.lt_or_ge p i with hlt | hge
    · exact .inr (srt_get hX hpa hu hlt)
    · obtain rfl : p = i := by omega
      rw [hpa] at hu; cases hu; exact .inl rfl
  have h2 : v = b ∨ le v b := by
    rcases Nat.lt_or_ge j q with hlt | hge
    · exact .inr (srt_get hY hv hqb hlt)
    · obtain rfl : j = q := by omega
      rw [hqb] at hv; cases hv; exact .inl rfl
  have h3 : le a v := by
    rcases h1 with rfl | h1
    · exact h
    · exact trans _ _ _ h1 h
  rcases h2 with rfl | h2
  · exact h3
  · exact trans _ _ _ h3 h2

theorem ins_srt {Y : List α} (hY : Srt le Y) {t : Nat} {x : α} (h1 : t = 0 ∨ ∃ y, Y[t - 1]? = some y ∧ le y x) (h2 : ∀ y, Y[t]? = some y → le x y) : Srt le (ins Y t x) := by
  have a1 : ∀ a ∈ Y.take t, le a x := by
    intro a ha
    rcases h1 with rfl | ⟨y, hy, hyx⟩
    · simp at ha
    · rcases Nat.eq_zero_or_pos t with rfl | ht
      · simp at ha
      · obtain ⟨p, hp, hpa⟩ := mem_take ha
        rcases Nat.lt_or_ge p (t - 1) with hlt | hge
        · exact trans _ _ _ (srt_get hY hpa hy hlt) hyx
        · obtain rfl : p = t - 1 := by omega
          rw [hpa] at hy; cases hy; exact hyx
  have a2 : ∀ b ∈ Y.drop t, le x b := by
    intro b hb
    obtain ⟨q, hq, hqb⟩ := mem_drop hb
    have htl : t < Y.length := by have := (List.getElem?_eq_some_iff.1 hqb).1; omega
    have h3 := h2 Y[t] (by simp [htl])
    rcases Nat.lt_or_ge t q with hlt | hge
    · exact trans _ _ _ h3 (srt_get hY (by simp [htl]) hqb hlt)
    · obtain rfl : t = q := by omega
      have e := h2 b hqb
      exact e
  unfold ins
  refine List.pairwise_append.2 ⟨srt_take hY t, List.pairwise_cons.2 ⟨a2, srt_drop hY t⟩, fun a ha b hb => ?_⟩
  rcases List.mem_cons.1 hb with rfl | hb
  · exact a1 a ha
  · exact trans _ _ _ (a1 a ha) (a2 b hb)

omit trans in
theorem halves {X1 X2 Y1 Y2 M1 M2 : List α} (hX : Srt le (X1 ++ X2)) (hY : Srt le (Y1 ++ Y2)) (h12 : ∀ a ∈ X1, ∀ b ∈ Y2, le a b) (h21 : ∀ a ∈ Y1, ∀ b ∈ X2, le a b) (p1 : M1.Perm (X1 ++ Y1)) (p2 : M2.Perm (X2 ++ Y2)) (s1 : Srt le M1) (s2 : Srt le M2) :
    Srt le (M1 ++ M2) ∧ (M1 ++ M2).Perm ((X1 ++ X2) ++ (Y1 ++ Y2)) := by
  obtain ⟨x1, x2, x12⟩ := List.pairwise_append.1 hX
  obtain ⟨y1, y2, y12⟩ := List.pairwise_append.1 hY
  refine ⟨List.pairwise_append.2 ⟨s1, s2, fun a ha b hb => ?_⟩, ?_⟩
  · rcases List.mem_append.1 (p1.mem_iff.1 ha) with ha | ha <;> rcases List.mem_append.1 (p2.mem_iff.1 hb) with hb | hb
    · exact x12 a ha b hb
    · exact h12 a ha b hb
    · exact h21 a ha b hb
    · exact y12 a ha b hb
  · refine (p1.append p2).trans ?_
    have e1 : (X1 ++ Y1) ++ (X2 ++ Y2) = X1 ++ ((Y1 ++ X2) ++ Y2) := by simp
    have e2 : (X1 ++ X2) ++ (Y1 ++ Y2) = X1 ++ ((X2 ++ Y1) ++ Y2) := by simp
    rw [e1, e2]
    exact List.Perm.append_left _ (List.Perm.append_right _ List.perm_append_comm)
omit trans

/-- Every run of s elements, from the beginning on, is in order. -/
def BS (le : α → α → Prop) (s : Nat) (L : List α) : Prop := ∀ k, Srt le ((L.drop (k * s)).take s)
theorem bs_one {s : Nat} {L : List α} (h : BS le s L) (hs : L.length ≤ s) : Srt le L := by
  have := h 0
  rw [Nat.zero_mul, List.drop_zero, List.take_of_length_le hs] at this
  exact this
theorem bs_nil (s : Nat) : BS le s ([] : List α) := fun k => by simp [Srt]
theorem bs_app {s q : Nat} {P M : List α} (hP : BS le s P) (hl : P.length = q * s) (hM : Srt le M) (hm : M.length ≤ s) : BS le s (P ++ M) := by
  intro k
  rcases Nat.lt_trichotomy k q with h | h | h
  · have h1 : k * s + s ≤ q * s := by
      have := Nat.mul_le_mul_right s (show k + 1 ≤ q from h)
      rw [Nat.add_mul, Nat.one_mul] at this
      exact this
    rw [List.drop_append_of_le_length (by omega), List.take_append_of_le_length (by simp; omega)]
    exact hP k
  · subst h
    rw [← hl, List.drop_left, List.take_of_length_le hm]
    exact hM
  · have h1 : q * s + s ≤ k * s := by
      have := Nat.mul_le_mul_right s (show q + 1 ≤ k from h)
      rw [Nat.add_mul, Nat.one_mul] at this
      exact this
    rw [List.drop_of_length_le (by simp; omega)]
    simp [Srt]
theorem bs_drop {s : Nat} {L : List α} (h : BS le s L) (q : Nat) : BS le s (L.drop (q * s)) := by
  intro k
  rw [List.drop_drop, ← Nat.add_mul]
  exact h _
theorem bs_head {s : Nat} {L : List α} (h : BS le s L) : Srt le (L.take s) := by
  have := h 0
  rw [Nat.zero_mul, List.drop_zero] at this
  exact this
theorem bs_second {s : Nat} {L : List α} (h : BS le s L) : Srt le ((L.drop s).take s) := by
  have := h 1
  rw [Nat.one_mul] at this
  exact this
end
end Mrg
end Go.Proofs.YtipjomdldjbenaaGreat

/-! A row of terms of the call's own, put in order by exchanges. No condition. -/
namespace Go.Proofs.YtipjomdldjbenaaGreat
open Go.RowKit
set_option maxRecDepth 20000

/-- Every block but one. -/
abbrev Off (b : Nat) : Nat → Prop := fun g => g ≠ b
theorem Off.keepI {mb : Nat} {w w' : World} {v : Value} {l : List Int} (h : RI (Off mb) w v l) (hg : w.grownBy w' (some mb)) : RI (Off mb) w' v l := h.keep fun b hb hl => hg.block b hl (by simpa using hb)
theorem Off.grown {mb : Nat} {w w' : World} (h : Below w.heap.size w w') : w.grownBy w' (some mb) := ⟨h.os, h.tape, h.output, h.size, fun i hi _ => h.block i hi⟩
theorem Off.tr {mb : Nat} {a b c : World} (h : a.grownBy b (some mb)) (k : b.grownBy c (some mb)) : a.grownBy c (some mb) :=
  ⟨k.os.trans h.os, k.tape.trans h.tape, k.output.trans h.output, Nat.le_trans h.size k.size, fun i hi hn => (k.block i (Nat.lt_of_lt_of_le hi h.size) hn).trans (h.block i hi hn)⟩
theorem Off.drewG {mb : Nat} {a b : World} (h : a.grownBy b (some mb)) : a.grownBy b.drew (some mb) := ⟨h.os, h.tape, h.output, h.size, h.block⟩

/-- A term in memory: its two cells, and what they read as. -/
structure El where
  r : Value
  r' : Value
  x : List Int
  y : List Int
def cellsT : List El → List Value
  | [] => []
  | e :: L => e.r :: e.r' :: cellsT L
theorem cellsT_len : ∀ L : List El, (cellsT L).length = L.length * 2
  | [] => rfl
  | e :: L => by simp [cellsT, cellsT_len L]; omega
theorem cellsT_app : ∀ L M : List El, cellsT (L ++ M) = cellsT L ++ cellsT M
  | [], M => rfl
  | e :: L, M => by simp [cellsT, cellsT_app L M]
theorem cellsT_at : ∀ {L : List El} {j : Nat} {e : El}, L[j]? = some e → (cellsT L)[j * 2]? = some e.r ∧ (cellsT L)[j * 2 + 1]? = some e.r'
  | [], _, _, h => by simp at h
  | a :: L, 0, e, h => by simp at h; subst h; simp [cellsT]
  | a :: L, j + 1, e, h => by
    have := cellsT_at (L := L) (j := j) (by simpa using h)
    rw [show (j + 1) * 2 = j * 2 + 1 + 1 by omega, show j * 2 + 1 + 1 + 1 = (j * 2 + 1) + 1 + 1 by omega]
    simpa [cellsT] using this
theorem cellsT_set : ∀ (L : List El) (j : Nat) (e : El), ((cellsT L).set (j * 2) e.r).set (j * 2 + 1) e.r' = cellsT (L.set j e)
  | [], j, e => by simp [cellsT]
  | a :: L, 0, e => by simp [cellsT]
  | a :: L, j + 1, e => by
    have := cellsT_set L j e
    rw [show (j + 1) * 2 = j * 2 + 1 + 1 by omega, show j * 2 + 1 + 1 + 1 = (j * 2 + 1) + 1 + 1 by omega]
    simpa [cellsT] using this

def RowT (blk N cap : Nat) (W : World) (L : List El) : Prop :=
  L.length = N ∧ W.ownsRow 0 46 2 (.slice (some ⟨blk, 0, none⟩) N cap) N (cellsT L) ∧ ∀ e ∈ L, RI (Off blk) W e.r e.x ∧ RI (Off blk) W e.r' e.y
section
variable {blk N cap : Nat} {W W' : World} {L : List El}
theorem RowT.cell (h : RowT blk N cap W L) {j : Nat} {e : El} (hj : L[j]? = some e) : W.cell? ⟨blk, j * 2, none⟩ = some e.r ∧ W.cell? ⟨blk, j * 2 + 1, none⟩ = some e.r' := by
  have hl : j < L.length := (List.getElem?_eq_some_iff.1 hj).1
  have := h.1
  have h0 := h.2.1.cellAt (j * 2) (by omega)
  have h1 := h.2.1.cellAt (j * 2 + 1) (by omega)
  obtain ⟨a, b⟩ := cellsT_at hj
  exact ⟨h0.trans a, h1.trans b⟩
theorem RowT.froz (h : RowT blk N cap W L) (j : Nat) : W.frozen? ⟨blk, j, none⟩ = false := h.2.1.frozenAt j
theorem RowT.reads (h : RowT blk N cap W L) {j : Nat} {e : El} (hj : L[j]? = some e) : RI (Off blk) W e.r e.x ∧ RI (Off blk) W e.r' e.y := h.2.2 e (List.mem_of_getElem? hj)
theorem RowT.forms (h : RowT blk N cap W L) {j : Nat} {e : El} (hj : L[j]? = some e) : ∃ a n c a' n' c', e.r = .slice a n c ∧ e.r' = .slice a' n' c' := by
  obtain ⟨a, c, h1⟩ := (h.reads hj).1.form
  obtain ⟨a', c', h2⟩ := (h.reads hj).2.form
  exact ⟨a, _, c, a', _, c', h1, h2⟩
theorem RowT.below (h : RowT blk N cap W L) (hb : Below W.heap.size W W') : RowT blk N cap W' L :=
  ⟨h.1, own_keep h.2.1 (fun b hv => hb.block b (h.2.1.lt b hv).2), fun e he => ⟨(h.2.2 e he).1.below hb, (h.2.2 e he).2.below hb⟩⟩
theorem RowT.drew (h : RowT blk N cap W L) : RowT blk N cap W.drew L := h.below (by exact (Below.refl _ W).drew)
theorem RowT.lt (h : RowT blk N cap W L) : blk < W.heap.size := (h.2.1.lt blk rfl).2
/-- An element has been laid at place j. -/
theorem RowT.put (h : RowT blk N cap W L) {j : Nat} {e : El} (he : RI (Off blk) W e.r e.x ∧ RI (Off blk) W e.r' e.y) : RowT blk N cap ((W.setCell ⟨blk, j * 2, none⟩ e.r).setCell ⟨blk, j * 2 + 1, none⟩ e.r') (L.set j e) ∧
    W.grownBy ((W.setCell ⟨blk, j * 2, none⟩ e.r).setCell ⟨blk, j * 2 + 1, none⟩ e.r') (some blk) := by
  obtain ⟨a1, g1⟩ := h.2.1.stored (j * 2) e.r
  obtain ⟨a2, g2⟩ := a1.stored (j * 2 + 1) e.r'
  have g := Off.tr g1 g2
  rw [cellsT_set] at a2
  refine ⟨⟨by simp [h.1], a2, fun f hf => ?_⟩, g⟩
  rcases List.mem_or_eq_of_mem_set hf with h' | rfl
  · exact ⟨Off.keepI (h.2.2 f h').1 g, Off.keepI (h.2.2 f h').2 g⟩
  · exact ⟨Off.keepI he.1 g, Off.keepI he.2 g⟩
/-- Two elements exchanged. -/
theorem RowT.swap (h : RowT blk N cap W L) {i j : Nat} {e f : El} (hi : L[i]? = some e) (hj : L[j]? = some f) :
    RowT blk N cap ((((W.setCell ⟨blk, i * 2, none⟩ f.r).setCell ⟨blk, i * 2 + 1, none⟩ f.r').setCell ⟨blk, j * 2, none⟩ e.r).setCell ⟨blk, j * 2 + 1, none⟩ e.r') ((L.set i f).set j e) ∧
    W.grownBy ((((W.setCell ⟨blk, i * 2, none⟩ f.r).setCell ⟨blk, i * 2 + 1, none⟩ f.r').setCell ⟨blk, j * 2, none⟩ e.r).setCell ⟨blk, j * 2 + 1, none⟩ e.r') (some blk) := by
  obtain ⟨h1, g1⟩ := h.put (j := i) (h.reads hj)
  obtain ⟨h2, g2⟩ := h1.put (j := j) (e := e) ⟨Off.keepI (h.reads hi).1 g1, Off.keepI (h.reads hi).2 g1⟩
  exact ⟨h2, Off.tr g1 g2⟩
end

open Mrg
set_option maxHeartbeats 1000000 in
theorem swapRangeT {blk N cap : Nat} {A B C D E L : List El} {w : World} {fv : Value} {a b n : Nat} (h : RowT blk N cap w L) (hL : L = A ++ (B ++ (C ++ (D ++ E)))) (ha : A.length = a) (hb : A.length + B.length + C.length = b) (hn : B.length = n) (hBD : B.length = D.length) (hN : N ≤ 1048576) :
    Calls Tryz.prog 115 #[.slice (some ⟨blk, 0, none⟩) N cap, .int .i64 a, .int .i64 b, .int .i64 n, fv] w fun e w' =>
      e = .returned (.tuple #[]) ∧ RowT blk N cap w' (A ++ (D ++ (C ++ (B ++ E)))) ∧ w.grownBy w' (some blk) := by
  have HST := Lib.hid (fun k (hk : k < n) => swK_step (A := A) (C := C) (E := E) (k := k) hBD (by omega))
  rw [hb, ha] at HST
  have hlen := h.1
  have h0 : RowT blk N cap w (swK A B C D E 0) := by rw [swK_zero, ← hL]; exact h
  have HE : Hid (swK A B C D E n = A ++ (D ++ (C ++ (B ++ E)))) := Lib.hid (by rw [← hn]; exact swK_end hBD)
  have hs1 : a + n ≤ b ∧ b + n ≤ N := by rw [hL] at hlen; simp at hlen; omega
  clear hL ha hb hn hBD h hlen
  rw [← HE.out]
  generalize swK A B C D E = K at *
  obtain ⟨hs1, hs2⟩ := hs1
  have mixed : Tryz.prog.follows .mixedOrders = true := by kernel_rfl
  go_enter Tryz.func115, Tryz.ntmps115
  go_wp2_with fail
  go_loopw [10] (fun i wr => ∃ k : Nat, k ≤ n ∧ i = .int .i64 k ∧ RowT blk N cap wr (K k) ∧ w.grownBy wr (some blk)) (fun i _ => n - (intOf i).toNat)
  case atStart => exact ⟨0, Nat.zero_le _, rfl, h0, World.grownBy.refl _ _⟩
  case round =>
    obtain ⟨k, hk, rfl, hr, hg⟩ := hrel
    by_cases h1 : k < n
    · have i1 : (k : Int) < (n : Int) := by omega
      obtain ⟨x, y, hx, hy, hset⟩ := HST.out k h1
      obtain ⟨ax, lx, qx, ax', lx', qx', ex, ex'⟩ := hr.forms hx
      obtain ⟨ay, ly, qy, ay', ly', qy', ey, ey'⟩ := hr.forms hy
      obtain ⟨cx, cx'⟩ := hr.cell hx
      obtain ⟨cy, cy'⟩ := hr.cell hy
      rw [ex] at cx
      rw [ex'] at cx'
      rw [ey] at cy
      rw [ey'] at cy'
      have f0 := hr.froz ((a + k) * 2)
      have f1 := hr.froz ((a + k) * 2 + 1)
      have f2 := hr.froz ((b + k) * 2)
      have f3 := hr.froz ((b + k) * 2 + 1)
      have e0 : ((a : Int) + (k : Int)).toNat = a + k := by omega
      have e1 : ((b : Int) + (k : Int)).toNat = b + k := by omega
      have hsw := hr.swap hx hy
      rw [hset] at hsw
      rw [ex, ex', ey, ey'] at hsw
      have HSW := Lib.hid hsw
      clear hsw ex ex' ey ey'
      clear hx hy hset
      go_wp2_with fail
      go_big_region_o
      go_wp2_with fail
      go_roundw
      case rel => exact ⟨k + 1, by omega, by go_num, HSW.out.1.drew, Off.tr hg (Off.drewG HSW.out.2)⟩
      case measure => simp [intOf]; omega
    · have hkn : k = n := by omega
      have i1 : ¬ (k : Int) < (n : Int) := by omega
      rw [hkn] at hr
      clear hkn
      go_wp2_with fail
      go_end0
      exact ⟨rfl, hr, hg⟩

theorem swapRangeT' {blk N cap : Nat} {A B C D E L : List El} {w : World} {fv : Value} {a b n : Int} (h : RowT blk N cap w L) (hL : L = A ++ (B ++ (C ++ (D ++ E)))) (ha : (A.length : Int) = a) (hb : (A.length : Int) + B.length + C.length = b) (hn : (B.length : Int) = n) (hBD : B.length = D.length) (hN : N ≤ 1048576) :
    Calls Tryz.prog 115 #[.slice (some ⟨blk, 0, none⟩) N cap, .int .i64 a, .int .i64 b, .int .i64 n, fv] w fun e w' =>
      e = .returned (.tuple #[]) ∧ RowT blk N cap w' (A ++ (D ++ (C ++ (B ++ E)))) ∧ w.grownBy w' (some blk) := by
  subst ha hb hn
  have e : (A.length : Int) + B.length + C.length = ((A.length + B.length + C.length : Nat) : Int) := by omega
  rw [e]
  exact swapRangeT h hL rfl rfl rfl hBD hN

theorem sub_nat {m i : Nat} (h : i ≤ m) : (m : Int) - (i : Int) = ((m - i : Nat) : Int) := by omega

set_option maxHeartbeats 1000000 in
theorem rotateT {blk N cap : Nat} {A X Y Z L : List El} {w : World} {fv : Value} {a m b : Nat} (h : RowT blk N cap w L) (hL : L = A ++ (X ++ (Y ++ Z))) (ha : A.length = a) (hm : A.length + X.length = m) (hb : A.length + X.length + Y.length = b) (hX : 0 < X.length) (hY : 0 < Y.length) (hN : N ≤ 1048576) :
    Calls Tryz.prog 113 #[.slice (some ⟨blk, 0, none⟩) N cap, .int .i64 a, .int .i64 m, .int .i64 b, fv] w fun e w' =>
      e = .returned (.tuple #[]) ∧ RowT blk N cap w' (A ++ (Y ++ (X ++ Z))) ∧ w.grownBy w' (some blk) := by
  have hlen := h.1
  have hbN : b ≤ N := by rw [hL] at hlen; simp at hlen; omega
  have e1 : (m : Int) - (a : Int) = ((X.length : Nat) : Int) := by omega
  have e2 : (b : Int) - (m : Int) = ((Y.length : Nat) : Int) := by omega
  have HL := Lib.hid hL
  have HM := Lib.hid hm
  generalize hT : A ++ (Y ++ (X ++ Z)) = T at *
  have HT := Lib.hid hT
  have hXN : X.length ≤ m := by omega
  have hYN : Y.length ≤ N := by omega
  have hmN : m ≤ N := by omega
  generalize hxl : X.length = xl at *
  generalize hyl : Y.length = yl at *
  have HXL := Lib.hid hxl
  have HYL := Lib.hid hyl
  clear hxl hyl hL hT hm ha hb hlen
  go_enter Tryz.func113, Tryz.ntmps113
  go_wp2_with fail
  go_loopw [10, 11] (fun i j wr => ∃ (p q : Nat) (A' P Q Z' L' : List El), i = .int .i64 p ∧ j = .int .i64 q ∧ 0 < p ∧ 0 < q ∧ p ≤ m ∧ m + q ≤ N ∧ Hid (L' = A' ++ (P ++ (Q ++ Z'))) ∧ Hid (P.length = p) ∧ Hid (Q.length = q) ∧ Hid (A'.length + P.length = m) ∧ Hid (A' ++ (Q ++ (P ++ Z')) = T) ∧ RowT blk N cap wr L' ∧ w.grownBy wr (some blk)) (fun i j _ => (intOf i).toNat + (intOf j).toNat)
  case atStart => exact ⟨xl, yl, A, X, Y, Z, L, rfl, rfl, by omega, by omega, by omega, by omega, HL, HXL, HYL, Lib.hid (by have := HXL.out; have := HM.out; omega), HT, h, World.grownBy.refl _ _⟩
  case round =>
    obtain ⟨p, q, A', P, Q, Z', L', rfl, rfl, hp, hq, hpm, hmq, HL', HP, HQ, HA, HT', hr, hg⟩ := hrel
    by_cases hpq : p = q
    · subst hpq
      have i1 : ((p : Int) != (p : Int)) = false := by simp
      go_wp2_with fail
      refine (swapRangeT' (A := A') (B := P) (C := []) (D := Q) (E := Z') hr (by rw [HL'.out]; rfl) (by have := HP.out; have := HA.out; omega) (by have := HP.out; have := HA.out; simp; omega) (by rw [HP.out]) (by rw [HP.out, HQ.out]) hN).mono ?_
      rintro e w1 ⟨rfl, hr1, hg1⟩
      go_wp2_with fail
      go_end0
      refine ⟨rfl, ?_, Off.tr hg hg1⟩
      rw [← HT'.out]
      exact hr1
    · have i1 : ((p : Int) != (q : Int)) = true := by simp; omega
      by_cases hlt : q < p
      · have i2 : (q : Int) < (p : Int) := by omega
        have e0 : P.take q ++ P.drop q = P := List.take_append_drop q P
        have l1 : (P.take q).length = q := by have := HP.out; simp; omega
        have l2 : (P.drop q).length = p - q := by have := HP.out; simp; omega
        generalize P.take q = P1 at *
        generalize P.drop q = P2 at *
        have H0 := Lib.hid e0
        have H1 := Lib.hid l1
        have H2 := Lib.hid l2
        clear e0 l1 l2
        go_wp2_with fail
        refine (swapRangeT' (A := A') (B := P1) (C := P2) (D := Q) (E := Z') hr (by rw [HL'.out, ← H0.out]; simp) (by have := HP.out; have := HA.out; omega) (by have := H1.out; have := H2.out; have := HP.out; have := HA.out; omega) (by rw [H1.out]) (by rw [H1.out, HQ.out]) hN).mono ?_
        rintro e w1 ⟨rfl, hr1, hg1⟩
        go_wp2_with fail
        go_roundw
        case rel => exact ⟨p - q, q, A' ++ Q, P2, P1, Z', _, by go_num, rfl, by omega, hq, by omega, hmq, Lib.hid rfl, H2, H1, Lib.hid (by have := H2.out; have := HQ.out; have := HP.out; have := HA.out; simp; omega), Lib.hid (by rw [← HT'.out, ← H0.out]; simp), by simpa using hr1, Off.tr hg hg1⟩
        case measure => simp [intOf]; omega
      · have i2 : ¬ (q : Int) < (p : Int) := by omega
        have e0 : Q.take (q - p) ++ Q.drop (q - p) = Q := List.take_append_drop _ Q
        have l1 : (Q.take (q - p)).length = q - p := by have := HQ.out; simp; omega
        have l2 : (Q.drop (q - p)).length = p := by have := HQ.out; simp; omega
        generalize Q.take (q - p) = Q1 at *
        generalize Q.drop (q - p) = Q2 at *
        have H0 := Lib.hid e0
        have H1 := Lib.hid l1
        have H2 := Lib.hid l2
        clear e0 l1 l2
        go_wp2_with fail
        refine (swapRangeT' (A := A') (B := P) (C := Q1) (D := Q2) (E := Z') hr (by rw [HL'.out, ← H0.out]; simp) (by have := HP.out; have := HA.out; omega) (by have := H1.out; have := HP.out; have := HA.out; omega) (by rw [HP.out]) (by rw [HP.out, H2.out]) hN).mono ?_
        rintro e w1 ⟨rfl, hr1, hg1⟩
        go_wp2_with fail
        go_roundw
        case rel => exact ⟨p, q - p, A', Q2, Q1, P ++ Z', _, rfl, by go_num, hp, by omega, hpm, by omega, Lib.hid rfl, H2, H1, Lib.hid (by have := H2.out; have := HP.out; have := HA.out; omega), Lib.hid (by rw [← HT'.out, ← H0.out]; simp), by simpa using hr1, Off.tr hg hg1⟩
        case measure => simp [intOf]; omega
end Go.Proofs.YtipjomdldjbenaaGreat

/-! Putting terms in order by their words: insertion. Condition: at most 2^20 terms, words of at most 2^24 letters. -/
namespace Go.Proofs.YtipjomdldjbenaaGreat
open Go.RowKit
open Mrg
set_option maxRecDepth 20000

theorem cmpL_swap : ∀ x y : List Int, cmpL y x = -cmpL x y
  | [], [] => by simp [cmpL]
  | [], _ :: _ => by simp [cmpL]
  | _ :: _, [] => by simp [cmpL]
  | a :: x, b :: y => by
    have := cmpL_swap x y
    simp only [cmpL]
    rcases Int.lt_trichotomy a b with h | h | h
    · rw [if_neg (by omega), if_pos h, if_pos h]; rfl
    · subst h; rw [if_neg (by omega), if_neg (by omega), if_neg (by omega), if_neg (by omega)]; exact this
    · rw [if_pos h, if_neg (by omega), if_pos h]
theorem cmpW_swap (x y : List Int) : cmpW y x = -cmpW x y := by
  unfold cmpW
  by_cases h : x.length = y.length
  · rw [if_pos h, if_pos h.symm]; exact cmpL_swap x y
  · rw [if_neg h, if_neg (fun e => h e.symm)]
    by_cases h2 : x.length < y.length
    · rw [if_pos h2, if_neg (by omega)]; rfl
    · rw [if_neg h2, if_pos (by omega)]
theorem cmpL_trans : ∀ {x y z : List Int}, x.length = y.length → y.length = z.length → cmpL x y ≤ 0 → cmpL y z ≤ 0 → cmpL x z ≤ 0
  | [], _, _, _, _, _, _ => by simp [cmpL]
  | a :: x, b :: y, c :: z, h1, h2, h3, h4 => by
    have ih := cmpL_trans (x := x) (y := y) (z := z) (by simpa using h1) (by simpa using h2)
    simp only [cmpL] at h3 h4 ⊢
    by_cases q1 : a < b
    · by_cases q2 : b < c
      · rw [if_pos (by omega)]; decide
      · rw [if_neg q2] at h4
        by_cases q3 : c < b
        · rw [if_pos q3] at h4; omega
        · rw [if_pos (by omega)]; decide
    · rw [if_neg q1] at h3
      by_cases q0 : b < a
      · rw [if_pos q0] at h3; omega
      · rw [if_neg q0] at h3
        obtain rfl : a = b := by omega
        by_cases q2 : a < c
        · rw [if_pos q2]; decide
        · rw [if_neg q2] at h4 ⊢
          by_cases q3 : c < a
          · rw [if_pos q3] at h4; omega
          · rw [if_neg q3] at h4 ⊢
            exact ih h3 h4
theorem cmpW_trans {x y z : List Int} (h1 : cmpW x y ≤ 0) (h2 : cmpW y z ≤ 0) : cmpW x z ≤ 0 := by
  unfold cmpW at *
  by_cases a : x.length = y.length
  · rw [if_pos a] at h1
    by_cases b : y.length = z.length
    · rw [if_pos b] at h2
      rw [if_pos (a.trans b)]
      exact cmpL_trans a b h1 h2
    · rw [if_neg b] at h2
      rw [if_neg (by omega)]
      by_cases c : y.length < z.length
      · rw [if_pos (by omega)]; decide
      · rw [if_neg c] at h2; omega
  · rw [if_neg a] at h1
    by_cases a2 : x.length < y.length
    · by_cases b : y.length = z.length
      · rw [if_neg (by omega), if_pos (by omega)]; decide
      · rw [if_neg b] at h2
        by_cases c : y.length < z.length
        · rw [if_neg (by omega), if_pos (by omega)]; decide
        · rw [if_neg c] at h2; omega
    · rw [if_neg a2] at h1; omega

/-- The order of terms by their words. -/
def leT (e f : El) : Prop := cmpW e.x f.x ≤ 0
theorem leT_trans (a b c : El) (h1 : leT a b) (h2 : leT b c) : leT a c := cmpW_trans h1 h2
theorem leT_not {e f : El} (h : ¬ cmpW e.x f.x < 0) : leT f e := by unfold leT; rw [cmpW_swap]; omega
theorem leT_lt {e f : El} (h : cmpW e.x f.x < 0) : leT e f := by unfold leT; omega

/-- The words are not too long. -/
def WdOk (L : List El) : Prop := ∀ e ∈ L, e.x.length ≤ 16777216

set_option maxHeartbeats 1000000 in
theorem cmpT {S S' : Nat → Prop} {W : World} {r1 r1' r2 r2' : Value} {x y : List Int} (h : RI S W r1 x) (h' : RI S' W r2 y) (hl : x.length ≤ 16777216) (hl' : y.length ≤ 16777216) (h1 : ∃ a n c, r1' = .slice a n c) (h2 : ∃ a n c, r2' = .slice a n c) :
    Calls Tryz.prog 56 #[.agg #[r1, r1'], .agg #[r2, r2']] W fun e w' => e = .returned (.int .i64 (cmpW x y)) ∧ Below W.heap.size W w' := by
  obtain ⟨a1, n1, c1, rfl⟩ := h1
  obtain ⟨a2, n2, c2, rfl⟩ := h2
  obtain ⟨a3, c3, rfl⟩ := h.form
  obtain ⟨a4, c4, rfl⟩ := h'.form
  go_enter Tryz.func56, Tryz.ntmps56
  have bb : Below W.heap.size W ((W.alloc (.cells #[.slice a3 x.length c3, .slice a1 n1 c1] 46)).alloc (.cells #[.slice a4 y.length c4, .slice a2 n2 c2] 46)) := ((Below.refl _ _).alloc (Nat.le_refl _) _).alloc (by simp) _
  go_wp2_with fail
  refine (compareWordsImpl (h.below bb) (h'.below bb) hl hl').mono ?_
  rintro e w1 ⟨rfl, b1⟩
  go_wp2_with fail
  go_ret
  exact ⟨rfl, Keeps.step bb b1⟩

theorem RowT.wds {blk N cap : Nat} {W : World} {L : List El} {j : Nat} {e : El} (_ : RowT blk N cap W L) (hw : WdOk L) (hj : L[j]? = some e) : e.x.length ≤ 16777216 := hw e (List.mem_of_getElem? hj)
theorem wdOk_perm {L M : List El} (h : WdOk L) (p : M.Perm L) : WdOk M := fun e he => h e (p.mem_iff.1 he)

set_option maxHeartbeats 2000000 in
theorem insertionT {blk N cap : Nat} {A M Z L : List El} {w : World} {a b : Nat} (h : RowT blk N cap w L) (hL : L = A ++ (M ++ Z)) (ha : A.length = a) (hb : A.length + M.length = b) (hN : N ≤ 1048576) (hwd : WdOk L) :
    Calls Tryz.prog 106 #[.slice (some ⟨blk, 0, none⟩) N cap, .int .i64 a, .int .i64 b, .func (.func 56) #[] #[]] w fun e w' =>
      e = .returned (.tuple #[]) ∧ ∃ M', M'.Perm M ∧ Srt leT M' ∧ RowT blk N cap w' (A ++ (M' ++ Z)) ∧ w.grownBy w' (some blk) := by
  have hlen := h.1
  have hbN : b ≤ N := by rw [hL] at hlen; simp at hlen; omega
  have mixed : Tryz.prog.follows .mixedOrders = true := by kernel_rfl
  subst hL
  have HWD := Lib.hid hwd
  have HA := Lib.hid ha
  have HB := Lib.hid hb
  have hab : a ≤ b := by omega
  clear hwd ha hb hlen
  go_enter Tryz.func106, Tryz.ntmps106
  go_wp2_with fail
  go_loopw [8] (fun iv wr => ∃ (I : Nat) (P R : List El), iv = .int .i64 (I : Int) ∧ a + 1 ≤ I ∧ I ≤ b + 1 ∧ Hid (R ≠ [] → a + P.length = I) ∧ Hid (a + P.length ≤ I) ∧ Hid (P.length + R.length = M.length) ∧ Hid (Srt leT P) ∧ Hid ((P ++ R).Perm M) ∧ RowT blk N cap wr (A ++ (P ++ (R ++ Z))) ∧ w.grownBy wr (some blk)) (fun iv _ => b + 1 - (intOf iv).toNat)
  case atStart =>
    refine ⟨a + 1, M.take 1, M.drop 1, by go_num, Nat.le_refl _, by omega, Lib.hid (fun hne => ?_), Lib.hid ?_, Lib.hid ?_, Lib.hid ?_, Lib.hid (by rw [List.take_append_drop]), ?_, World.grownBy.refl _ _⟩
    · cases M with
      | nil => simp at hne
      | cons x M => simp
    · have : (M.take 1).length ≤ 1 := by simp; omega
      omega
    · simp; omega
    · cases M with
      | nil => simp
      | cons x M => simp
    · rw [← List.append_assoc (M.take 1), List.take_append_drop]; exact h
  case round =>
    obtain ⟨I, P, R, rfl, hI1, hI2, HPR, HPI, HLN, HS, HPM, hr, hg⟩ := hrel
    cases R with
    | nil =>
      have i1 : ¬ (I : Int) < (b : Int) := by have h9 := HLN.out; have := HA.out; have := HB.out; have := HPI.out; rw [List.length_nil] at h9; omega
      go_wp2_with fail
      go_end0
      exact ⟨rfl, P, by have := HPM.out; rwa [List.append_nil] at this, HS.out, hr, hg⟩
    | cons x R =>
      have hPI := HPR.out (by simp)
      have hIb : I < b := by have h9 := HLN.out; have := HA.out; have := HB.out; rw [List.length_cons] at h9; omega
      have i1 : (I : Int) < (b : Int) := by omega
      have HWL : Hid (WdOk (x :: P)) := Lib.hid (fun e he => HWD.out e (by
        have hm : e ∈ M := HPM.out.mem_iff.1 (by
          rcases List.mem_cons.1 he with rfl | he
          · simp
          · simp [he])
        simp [hm]))
      have h0 : RowT blk N cap wr (A ++ (ins P (I - a) x ++ (R ++ Z))) := by
        rw [show I - a = P.length by omega, ins_end]
        simpa using hr
      have HPI2 := Lib.hid hPI
      clear hr hPI
      go_wp2_with fail
      go_loopw [9] (fun jv wr => ∃ (J : Nat), jv = .int .i64 (J : Int) ∧ a ≤ J ∧ J ≤ I ∧ Hid (∀ y, P[J - a]? = some y → leT x y) ∧ RowT blk N cap wr (A ++ (ins P (J - a) x ++ (R ++ Z))) ∧ w.grownBy wr (some blk)) (fun jv _ => (intOf jv).toNat)
      case atStart => exact ⟨I, rfl, by omega, Nat.le_refl _, Lib.hid (fun y hy => by rw [List.getElem?_eq_none (by have := HPI2.out; omega)] at hy; cases hy), h0, hg⟩
      case round =>
        obtain ⟨J, rfl, hJ1, hJ2, HJ, hrj, hgj⟩ := hrel
        have HEND : Hid ((J = a ∨ ∃ y, P[J - a - 1]? = some y ∧ leT y x) → Srt leT (ins P (J - a) x)) := Lib.hid (fun hc => ins_srt leT_trans HS.out (by
          rcases hc with rfl | hc
          · exact .inl (Nat.sub_self _)
          · exact .inr hc) HJ.out)
        have HNEW : Hid (∀ wr', RowT blk N cap wr' (A ++ (ins P (J - a) x ++ (R ++ Z))) → Srt leT (ins P (J - a) x) → w.grownBy wr' (some blk) → ∃ (I' : Nat) (P' R' : List El), Value.int IntKind.i64 ((I : Int) + 1) = .int .i64 (I' : Int) ∧ a + 1 ≤ I' ∧ I' ≤ b + 1 ∧ Hid (R' ≠ [] → a + P'.length = I') ∧ Hid (a + P'.length ≤ I') ∧ Hid (P'.length + R'.length = M.length) ∧ Hid (Srt leT P') ∧ Hid ((P' ++ R').Perm M) ∧ RowT blk N cap wr' (A ++ (P' ++ (R' ++ Z))) ∧ w.grownBy wr' (some blk)) := Lib.hid (fun wr' q1 q2 q3 => by
          have hl := ins_len P (J - a) x
          have := HPI2.out
          refine ⟨I + 1, ins P (J - a) x, R, by go_num, by omega, by omega, Lib.hid (fun _ => by omega), Lib.hid (by omega), Lib.hid (by have h9 := HLN.out; rw [List.length_cons] at h9; omega), Lib.hid q2, Lib.hid ?_, q1, q3⟩
          refine ((ins_perm P (J - a) x).append_right R).trans (List.Perm.trans ?_ HPM.out)
          simp only [List.cons_append]
          exact List.perm_middle.symm)
        by_cases hja : a < J
        · obtain ⟨jp, rfl⟩ : ∃ jp, J = jp + 1 := ⟨J - 1, by omega⟩
          have hvP : jp - a < P.length := by have := HPI2.out; omega
          obtain ⟨y, hy⟩ : ∃ y, P[jp - a]? = some y := ⟨_, List.getElem?_eq_getElem hvP⟩
          have hst := ins_step A (R ++ Z) (x := x) hy
          have e1 : A.length + (jp - a) = jp := by have := HA.out; omega
          rw [e1, show jp - a + 1 = jp + 1 - a by omega] at hst
          obtain ⟨_, _, _, hset, hgy, hgx⟩ := hst
          obtain ⟨ax, lx, qx, ax', lx', qx', ex, ex'⟩ := hrj.forms hgx
          obtain ⟨ay, ly, qy, ay', ly', qy', ey, ey'⟩ := hrj.forms hgy
          obtain ⟨cx, cx'⟩ := hrj.cell hgx
          obtain ⟨cy, cy'⟩ := hrj.cell hgy
          have rx := (hrj.reads hgx).1
          have ry := (hrj.reads hgy).1
          rw [ex] at cx rx
          rw [ex'] at cx'
          rw [ey] at cy ry
          rw [ey'] at cy'
          have g0 := fun z : GW wr => z.cell cx
          have g1 := fun z : GW wr => z.cell cx'
          have g2 := fun z : GW wr => z.cell cy
          have g3 := fun z : GW wr => z.cell cy'
          have hwx : x.x.length ≤ 16777216 := HWL.out x (by simp)
          have hwy : y.x.length ≤ 16777216 := HWL.out y (by simp [List.mem_of_getElem? hy])
          have jz : (jp : Int) + 1 < (N : Int) := by omega
          have jz1 : (jp : Int) < (N : Int) := by omega
          have jza : (a : Int) < (jp : Int) + 1 := by omega
          have p0 : (0 : Int) ≤ (jp : Int) + 1 := by omega
          have e0 : ((jp : Int) + 1).toNat = jp + 1 := by omega
          have HROW : Hid (∀ w8, Below wr.heap.size wr w8 → RowT blk N cap w8 (A ++ (ins P (jp + 1 - a) x ++ (R ++ Z)))) := Lib.hid (fun w8 hb => hrj.below hb)
          have HGX := Lib.hid hgx
          have HGY := Lib.hid hgy
          have HSET := Lib.hid hset
          have HY := Lib.hid hy
          have HEX := Lib.hid (show x.r = _ ∧ x.r' = _ ∧ y.r = _ ∧ y.r' = _ from ⟨ex, ex', ey, ey'⟩)
          clear hgx hgy hset hy ex ex' ey ey' cx cx' cy cy'
          by_cases hless : cmpW x.x y.x < 0
          · go_wp2_with fail
            refine region_grow (by kernel_rfl) (by kernel_rfl) ?_
            repeat (go_big_quiet_step ((first | (rename_i z; go_at_call 56; exact Calls.grow z (cmpT (rx.below z.le) (ry.below z.le) hwx hwy ⟨_, _, _, rfl⟩ ⟨_, _, _, rfl⟩)))))
            refine wpQuiet_nil ?_
            intro w8 hb8
            have hr8 := HROW.out w8 hb8
            obtain ⟨dx, dx'⟩ := hr8.cell HGX.out
            obtain ⟨dy, dy'⟩ := hr8.cell HGY.out
            have hsw := hr8.swap HGX.out HGY.out
            rw [HSET.out, HEX.out.1, HEX.out.2.1, HEX.out.2.2.1, HEX.out.2.2.2] at hsw
            rw [HEX.out.1] at dx
            rw [HEX.out.2.1] at dx'
            rw [HEX.out.2.2.1] at dy
            rw [HEX.out.2.2.2] at dy'
            have f0 := hr8.froz (jp * 2)
            have f1 := hr8.froz (jp * 2 + 1)
            have f2 := hr8.froz ((jp + 1) * 2)
            have f3 := hr8.froz ((jp + 1) * 2 + 1)
            have HSW := Lib.hid hsw
            have hless2 := decide_eq_true hless
            have HB8 := Lib.hid hb8
            clear hr8 hsw hb8 g0 g1 g2 g3
            go_wp2_with fail
            go_big_region_o
            go_wp2_with fail
            go_roundw
            case rel => exact ⟨jp, by go_num, by omega, by omega, Lib.hid (fun y' hy' => by
              have := HY.out
              rw [hy'] at this
              cases this
              exact leT_lt hless), HSW.out.1.drew, Off.tr (Off.tr hgj (Off.grown HB8.out)) (Off.drewG HSW.out.2)⟩
            case measure => simp [intOf]
          · have HS2 : Hid (Srt leT (ins P (jp + 1 - a) x)) := Lib.hid (HEND.out (.inr ⟨y, by rw [show jp + 1 - a - 1 = jp - a by omega]; exact HY.out, leT_not hless⟩))
            have hless2 := decide_eq_false hless
            go_wp2_with fail
            refine region_grow (by kernel_rfl) (by kernel_rfl) ?_
            repeat (go_big_quiet_step ((first | (rename_i z; go_at_call 56; exact Calls.grow z (cmpT (rx.below z.le) (ry.below z.le) hwx hwy ⟨_, _, _, rfl⟩ ⟨_, _, _, rfl⟩)))))
            refine wpQuiet_nil ?_
            intro w8 hb8
            have HFIN := Lib.hid (HNEW.out w8 (HROW.out w8 hb8) HS2.out (Off.tr hgj (Off.grown hb8)))
            clear hb8 g0 g1 g2 g3
            go_wp2_with fail
            go_roundw
            case rel => exact HFIN.out
            case measure => simp [intOf]; omega
        · have hJa : J = a := by omega
          have HS2 : Hid (Srt leT (ins P (J - a) x)) := Lib.hid (HEND.out (.inl hJa))
          have i2 : decide ((a : Int) < (J : Int)) = false := decide_eq_false (by omega)
          have i3 : decide (a < J) = false := decide_eq_false (by omega)
          have HROW : Hid (∀ w8, Below wr.heap.size wr w8 → RowT blk N cap w8 (A ++ (ins P (J - a) x ++ (R ++ Z)))) := Lib.hid (fun w8 hb => hrj.below hb)
          clear hJa hja
          go_wp2_with fail
          refine region_grow (by kernel_rfl) (by kernel_rfl) ?_
          repeat (go_big_quiet_step ((first | (rename_i z; go_at_call 56; fail))))
          refine wpQuiet_nil ?_
          intro w8 hb8
          have HFIN := Lib.hid (HNEW.out w8 (HROW.out w8 hb8) HS2.out (Off.tr hgj (Off.grown hb8)))
          clear hb8
          go_wp2_with fail
          go_roundw
          case rel => exact HFIN.out
          case measure => simp [intOf]; omega
end Go.Proofs.YtipjomdldjbenaaGreat

/-! Putting terms in order by their words: merging in place. Condition: at most 2^20 terms, words of at most 2^24 letters. -/
namespace Go.Proofs.YtipjomdldjbenaaGreat
open Go.RowKit
open Mrg
set_option maxRecDepth 20000

def SymP (blk N cap n : Nat) : Prop := ∀ {A X Y Z L : List El} {w : World} {a m b : Nat}, RowT blk N cap w L → L = A ++ (X ++ (Y ++ Z)) → A.length = a → A.length + X.length = m → A.length + X.length + Y.length = b → 0 < X.length → 0 < Y.length → X.length + Y.length ≤ n → N ≤ 1048576 → WdOk L → Srt leT X → Srt leT Y →
  Calls Tryz.prog 107 #[.slice (some ⟨blk, 0, none⟩) N cap, .int .i64 a, .int .i64 m, .int .i64 b, .func (.func 56) #[] #[]] w fun e w' =>
    e = .returned (.tuple #[]) ∧ ∃ M, M.Perm (X ++ Y) ∧ Srt leT M ∧ RowT blk N cap w' (A ++ (M ++ Z)) ∧ w.grownBy w' (some blk)

theorem get_mid {α : Type} (A Y Z : List α) {j : Nat} {y : α} (h : Y[j]? = some y) : (A ++ (Y ++ Z))[A.length + j]? = some y := by
  rw [List.getElem?_append_right (by omega), Nat.add_sub_cancel_left, List.getElem?_append_left (List.getElem?_eq_some_iff.1 h).1]
  exact h

set_option maxHeartbeats 4000000 in
theorem sym_left {blk N cap : Nat} {A Y Z L : List El} {x : El} {w : World} {a m b : Nat} (h : RowT blk N cap w L) (hL : L = A ++ ([x] ++ (Y ++ Z))) (ha : A.length = a) (hm : A.length + 1 = m) (hb : A.length + 1 + Y.length = b) (hN : N ≤ 1048576) (hwd : WdOk L) (hS : Srt leT Y) :
  Calls Tryz.prog 107 #[.slice (some ⟨blk, 0, none⟩) N cap, .int .i64 a, .int .i64 m, .int .i64 b, .func (.func 56) #[] #[]] w fun e w' =>
    e = .returned (.tuple #[]) ∧ ∃ M, M.Perm (x :: Y) ∧ Srt leT M ∧ RowT blk N cap w' (A ++ (M ++ Z)) ∧ w.grownBy w' (some blk) := by
  have hlen := h.1
  have hbN : b ≤ N := by rw [hL] at hlen; simp at hlen; omega
  have mixed : Tryz.prog.follows .mixedOrders = true := by kernel_rfl
  have HA := Lib.hid ha
  have HB := Lib.hid hb
  have HWD := Lib.hid hwd
  have h0 : RowT blk N cap w (A ++ (ins Y 0 x ++ Z)) := by rw [ins_zero]; simpa [hL] using h
  have HL := Lib.hid hL
  have HSY := Lib.hid hS
  have HWL : Hid (WdOk (A ++ (ins Y 0 x ++ Z))) := Lib.hid (by rw [ins_zero]; simpa [hL] using hwd)
  have hm1 : a + 1 ≤ m := by omega
  have hm2 : m ≤ a + 1 := by omega
  have hab : m ≤ b := by omega
  have i0 : ((m : Int) - (a : Int) == 1) = true := by simp; omega
  clear ha hb hL hlen h hwd hS hm
  go_enter Tryz.func107, Tryz.ntmps107
  go_wp2_with fail
  go_loopw [10, 11] (fun iv jv wr => ∃ (I J : Nat), iv = .int .i64 (I : Int) ∧ jv = .int .i64 (J : Int) ∧ m ≤ I ∧ I ≤ J ∧ J ≤ b ∧ Hid (I = m ∨ ∃ y, Y[I - m - 1]? = some y ∧ leT y x) ∧ Hid (∀ y, Y[J - m]? = some y → leT x y) ∧ RowT blk N cap wr (A ++ (ins Y 0 x ++ Z)) ∧ w.grownBy wr (some blk)) (fun iv jv _ => (intOf jv).toNat - (intOf iv).toNat)
  case atStart => exact ⟨m, b, rfl, rfl, Nat.le_refl _, hab, Nat.le_refl _, Lib.hid (.inl rfl), Lib.hid (fun y hy => by rw [List.getElem?_eq_none (by have := HA.out; have := HB.out; omega)] at hy; cases hy), h0, World.grownBy.refl _ _⟩
  case round =>
    obtain ⟨I, J, rfl, rfl, hI, hIJ, hJ, HI, HJ, hr, hg⟩ := hrel
    by_cases hlt : I < J
    · have i1 : (I : Int) < (J : Int) := by omega
      obtain ⟨H, hH⟩ : ∃ H : Nat, H = (I + J) / 2 := ⟨_, rfl⟩
      have hH1 : ((I : Int) + (J : Int)) / 2 = (H : Int) := by omega
      have hH2 : I ≤ H ∧ H < J := by omega
      obtain ⟨v, hv⟩ : ∃ v, H = m + v := ⟨H - m, by omega⟩
      have hvY : v < Y.length := by have := HA.out; have := HB.out; omega
      obtain ⟨y, hy⟩ : ∃ y, Y[v]? = some y := ⟨_, List.getElem?_eq_getElem hvY⟩
      have hgx : (A ++ (ins Y 0 x ++ Z))[a]? = some x := by
        rw [ins_zero, ← HA.out]
        exact get_mid A (x :: Y) Z (j := 0) rfl
      have hgy : (A ++ (ins Y 0 x ++ Z))[H]? = some y := by
        rw [ins_zero, show H = A.length + (v + 1) by have := HA.out; omega]
        exact get_mid A (x :: Y) Z (j := v + 1) hy
      obtain ⟨ax, lx, qx, ax', lx', qx', ex, ex'⟩ := hr.forms hgx
      obtain ⟨cx, cx'⟩ := hr.cell hgx
      have rx := (hr.reads hgx).1
      have hwx : x.x.length ≤ 16777216 := hr.wds HWL.out hgx
      rw [ex] at cx rx
      rw [ex'] at cx'
      obtain ⟨ay, ly, qy, ay', ly', qy', ey, ey'⟩ := hr.forms hgy
      obtain ⟨cy, cy'⟩ := hr.cell hgy
      have ry := (hr.reads hgy).1
      have hwy : y.x.length ≤ 16777216 := hr.wds HWL.out hgy
      rw [ey] at cy ry
      rw [ey'] at cy'
      have g0 := fun z : GW wr => z.cell cx
      have g1 := fun z : GW wr => z.cell cx'
      have g2 := fun z : GW wr => z.cell cy
      have g3 := fun z : GW wr => z.cell cy'
      have jz : (H : Int) < (N : Int) := by omega
      have jz1 : (a : Int) < (N : Int) := by omega
      have HY := Lib.hid hy
      have HV := Lib.hid hv
      have HROW : Hid (∀ w8, Below wr.heap.size wr w8 → RowT blk N cap w8 (A ++ (ins Y 0 x ++ Z))) := Lib.hid (fun w8 hb => hr.below hb)
      clear hgx hgy hy hv ex ex' ey ey' hH cx cx' cy cy'
      by_cases hless : cmpW y.x x.x < 0
      · have hless2 := decide_eq_true hless
        go_wp2_with fail
        refine region_grow (by kernel_rfl) (by kernel_rfl) ?_
        repeat (go_big_quiet_step ((first | (rename_i z; go_at_call 56; exact Calls.grow z (cmpT (ry.below z.le) (rx.below z.le) hwy hwx ⟨_, _, _, rfl⟩ ⟨_, _, _, rfl⟩)))))
        refine wpQuiet_nil ?_
        intro w8 hb8
        have HR8 := Lib.hid (HROW.out w8 hb8)
        have HG8 := Lib.hid (Off.tr hg (Off.grown hb8))
        clear hb8 g0 g1 g2 g3
        go_wp2_with fail
        go_roundw
        case rel => exact ⟨H + 1, J, by go_num, rfl, by omega, by omega, hJ, Lib.hid (.inr ⟨y, by rw [show H + 1 - m - 1 = v by have := HV.out; omega]; exact HY.out, leT_lt hless⟩), HJ, HR8.out, HG8.out⟩
        case measure => simp [intOf]; omega
      · have hless2 := decide_eq_false hless
        go_wp2_with fail
        refine region_grow (by kernel_rfl) (by kernel_rfl) ?_
        repeat (go_big_quiet_step ((first | (rename_i z; go_at_call 56; exact Calls.grow z (cmpT (ry.below z.le) (rx.below z.le) hwy hwx ⟨_, _, _, rfl⟩ ⟨_, _, _, rfl⟩)))))
        refine wpQuiet_nil ?_
        intro w8 hb8
        have HR8 := Lib.hid (HROW.out w8 hb8)
        have HG8 := Lib.hid (Off.tr hg (Off.grown hb8))
        clear hb8 g0 g1 g2 g3
        go_wp2_with fail
        go_roundw
        case rel => exact ⟨I, H, rfl, rfl, hI, by omega, by omega, HI, Lib.hid (fun y' hy' => by
          rw [show H - m = v by have := HV.out; omega, HY.out] at hy'
          cases hy'
          exact leT_not (by omega)), HR8.out, HG8.out⟩
        case measure => simp [intOf]; omega
    · obtain rfl : I = J := by omega
      have i1 : ¬ (I : Int) < (I : Int) := by omega
      have HP : Hid (Srt leT (ins Y (I - m) x)) := Lib.hid (ins_srt leT_trans HSY.out (by
        rcases HI.out with h | h
        · exact .inl (by omega)
        · exact .inr h) HJ.out)
      have hsub : (I : Int) - 1 = ((I - 1 : Nat) : Int) := by omega
      have hYI : I - m ≤ Y.length := by have := HA.out; have := HB.out; omega
      clear HI HJ
      go_wp2_with fail
      go_loopw [13] (fun kv wr => ∃ (t : Nat), kv = .int .i64 ((a : Int) + (t : Int)) ∧ t ≤ I - m ∧ RowT blk N cap wr (A ++ (ins Y t x ++ Z)) ∧ w.grownBy wr (some blk)) (fun kv _ => I - (intOf kv).toNat)
      case atStart => exact ⟨0, by go_num, Nat.zero_le _, hr, hg⟩
      case round =>
        obtain ⟨t, rfl, ht, hr, hg⟩ := hrel
        by_cases htI : t < I - m
        · have i2 : (a : Int) + (t : Int) < (I : Int) - 1 := by omega
          obtain ⟨k, hk⟩ : ∃ k, a + t = k := ⟨_, rfl⟩
          have hk1 : (a : Int) + (t : Int) = (k : Int) := by omega
          obtain ⟨y, hy⟩ : ∃ y, Y[t]? = some y := ⟨_, List.getElem?_eq_getElem (by omega)⟩
          have hst := ins_step A Z (x := x) hy
          rw [HA.out, hk] at hst
          obtain ⟨hgx, hgy, hset, _⟩ := hst
          obtain ⟨ax, lx, qx, ax', lx', qx', ex, ex'⟩ := hr.forms hgx
          obtain ⟨ay, ly, qy, ay', ly', qy', ey, ey'⟩ := hr.forms hgy
          obtain ⟨dx, dx'⟩ := hr.cell hgx
          obtain ⟨dy, dy'⟩ := hr.cell hgy
          have hsw := hr.swap hgx hgy
          rw [hset, ex, ex', ey, ey'] at hsw
          rw [ex] at dx
          rw [ex'] at dx'
          rw [ey] at dy
          rw [ey'] at dy'
          have f0 := hr.froz (k * 2)
          have f1 := hr.froz (k * 2 + 1)
          have f2 := hr.froz ((k + 1) * 2)
          have f3 := hr.froz ((k + 1) * 2 + 1)
          have HSW := Lib.hid hsw
          have jz : (k : Int) + 1 < (N : Int) := by omega
          have jz1 : (k : Int) < (N : Int) := by omega
          have i3 : (k : Int) < (I : Int) - 1 := by omega
          have p0 : (0 : Int) ≤ (k : Int) + 1 := by omega
          have e0 : ((k : Int) + 1).toNat = k + 1 := by omega
          have HK := Lib.hid hk
          clear hsw hgx hgy hset hy ex ex' ey ey' i2
          rw [hk1]
          clear hk hk1
          go_wp2_with fail
          go_big_region_o
          go_wp2_with fail
          go_roundw
          case rel => exact ⟨t + 1, by have := HK.out; go_num, by omega, HSW.out.1.drew, Off.tr hg (Off.drewG HSW.out.2)⟩
          case measure => have := HK.out; simp [intOf]; omega
        · have i2 : ¬ (a : Int) + (t : Int) < (I : Int) - 1 := by omega
          have HT : Hid (t = I - m) := Lib.hid (by omega)
          rw [HT.out] at hr
          go_wp2_with fail
          (try simp only [Exit.inBlock, Exit.then])
          refine bodyPost_ret (results_none rfl _ _ _) rfl ?_
          exact ⟨rfl, _, ins_perm Y _ x, HP.out, hr, hg⟩

set_option maxHeartbeats 4000000 in
theorem sym_right {blk N cap : Nat} {A X Z L : List El} {y : El} {w : World} {a m b : Nat} (h : RowT blk N cap w L) (hL : L = A ++ (X ++ ([y] ++ Z))) (ha : A.length = a) (hm : A.length + X.length = m) (hb : A.length + X.length + 1 = b) (h2 : 2 ≤ X.length) (hN : N ≤ 1048576) (hwd : WdOk L) (hS : Srt leT X) :
  Calls Tryz.prog 107 #[.slice (some ⟨blk, 0, none⟩) N cap, .int .i64 a, .int .i64 m, .int .i64 b, .func (.func 56) #[] #[]] w fun e w' =>
    e = .returned (.tuple #[]) ∧ ∃ M, M.Perm (X ++ [y]) ∧ Srt leT M ∧ RowT blk N cap w' (A ++ (M ++ Z)) ∧ w.grownBy w' (some blk) := by
  have hlen := h.1
  have hbN : b ≤ N := by rw [hL] at hlen; simp at hlen; omega
  have mixed : Tryz.prog.follows .mixedOrders = true := by kernel_rfl
  have HA := Lib.hid ha
  have HB := Lib.hid hm
  have HWD := Lib.hid hwd
  have h0 : RowT blk N cap w (A ++ (ins X X.length y ++ Z)) := by rw [ins_end]; simpa [hL] using h
  have HL := Lib.hid hL
  have HSY := Lib.hid hS
  have HWL : Hid (WdOk (A ++ (ins X X.length y ++ Z))) := Lib.hid (by rw [ins_end]; simpa [hL] using hwd)
  have hm1 : a + 2 ≤ m := by omega
  have hb1 : m + 1 ≤ b := by omega
  have hb2 : b ≤ m + 1 := by omega
  have i0 : ((m : Int) - (a : Int) == 1) = false := by simp; omega
  have i0b : ((b : Int) - (m : Int) == 1) = true := by simp; omega
  clear ha hb hL hlen h hwd hS hm h2
  go_enter Tryz.func107, Tryz.ntmps107
  go_wp2_with fail
  go_loopw [14, 15] (fun iv jv wr => ∃ (I J : Nat), iv = .int .i64 (I : Int) ∧ jv = .int .i64 (J : Int) ∧ a ≤ I ∧ I ≤ J ∧ J ≤ m ∧ Hid (I = a ∨ ∃ x, X[I - a - 1]? = some x ∧ leT x y) ∧ Hid (∀ x, X[J - a]? = some x → leT y x) ∧ RowT blk N cap wr (A ++ (ins X X.length y ++ Z)) ∧ w.grownBy wr (some blk)) (fun iv jv _ => (intOf jv).toNat - (intOf iv).toNat)
  case atStart => exact ⟨a, m, rfl, rfl, Nat.le_refl _, by omega, Nat.le_refl _, Lib.hid (.inl rfl), Lib.hid (fun x hx => by rw [List.getElem?_eq_none (by have := HA.out; have := HB.out; omega)] at hx; cases hx), h0, World.grownBy.refl _ _⟩
  case round =>
    obtain ⟨I, J, rfl, rfl, hI, hIJ, hJ, HI, HJ, hr, hg⟩ := hrel
    by_cases hlt : I < J
    · have i1 : (I : Int) < (J : Int) := by omega
      obtain ⟨H, hH⟩ : ∃ H : Nat, H = (I + J) / 2 := ⟨_, rfl⟩
      have hH1 : ((I : Int) + (J : Int)) / 2 = (H : Int) := by omega
      have hH2 : I ≤ H ∧ H < J := by omega
      obtain ⟨v, hv⟩ : ∃ v, H = a + v := ⟨H - a, by omega⟩
      have hvX : v < X.length := by have := HA.out; have := HB.out; omega
      obtain ⟨x, hx⟩ : ∃ x, X[v]? = some x := ⟨_, List.getElem?_eq_getElem hvX⟩
      have hgy : (A ++ (ins X X.length y ++ Z))[m]? = some y := by
        rw [ins_end, ← HB.out]
        exact get_mid A (X ++ [y]) Z (j := X.length) (by simp)
      have hgx : (A ++ (ins X X.length y ++ Z))[H]? = some x := by
        rw [ins_end, hv, ← HA.out]
        exact get_mid A (X ++ [y]) Z (j := v) (by rw [List.getElem?_append_left hvX]; exact hx)
      obtain ⟨ax, lx, qx, ax', lx', qx', ex, ex'⟩ := hr.forms hgx
      obtain ⟨cx, cx'⟩ := hr.cell hgx
      have rx := (hr.reads hgx).1
      have hwx : x.x.length ≤ 16777216 := hr.wds HWL.out hgx
      rw [ex] at cx rx
      rw [ex'] at cx'
      obtain ⟨ay, ly, qy, ay', ly', qy', ey, ey'⟩ := hr.forms hgy
      obtain ⟨cy, cy'⟩ := hr.cell hgy
      have ry := (hr.reads hgy).1
      have hwy : y.x.length ≤ 16777216 := hr.wds HWL.out hgy
      rw [ey] at cy ry
      rw [ey'] at cy'
      have g0 := fun z : GW wr => z.cell cx
      have g1 := fun z : GW wr => z.cell cx'
      have g2 := fun z : GW wr => z.cell cy
      have g3 := fun z : GW wr => z.cell cy'
      have jz : (H : Int) < (N : Int) := by omega
      have jz1 : (m : Int) < (N : Int) := by omega
      have HY := Lib.hid hx
      have HV := Lib.hid hv
      have HROW : Hid (∀ w8, Below wr.heap.size wr w8 → RowT blk N cap w8 (A ++ (ins X X.length y ++ Z))) := Lib.hid (fun w8 hb => hr.below hb)
      clear hgx hgy hx hv ex ex' ey ey' hH cx cx' cy cy'
      by_cases hless : cmpW y.x x.x < 0
      · have hless2 := decide_eq_true hless
        go_wp2_with fail
        refine region_grow (by kernel_rfl) (by kernel_rfl) ?_
        repeat (go_big_quiet_step ((first | (rename_i z; go_at_call 56; exact Calls.grow z (cmpT (ry.below z.le) (rx.below z.le) hwy hwx ⟨_, _, _, rfl⟩ ⟨_, _, _, rfl⟩)))))
        refine wpQuiet_nil ?_
        intro w8 hb8
        have HR8 := Lib.hid (HROW.out w8 hb8)
        have HG8 := Lib.hid (Off.tr hg (Off.grown hb8))
        clear hb8 g0 g1 g2 g3
        go_wp2_with fail
        go_roundw
        case rel => exact ⟨I, H, rfl, rfl, hI, by omega, by omega, HI, Lib.hid (fun x' hx' => by
          rw [show H - a = v by have := HV.out; omega, HY.out] at hx'
          cases hx'
          exact leT_lt hless), HR8.out, HG8.out⟩
        case measure => simp [intOf]; omega
      · have hless2 := decide_eq_false hless
        go_wp2_with fail
        refine region_grow (by kernel_rfl) (by kernel_rfl) ?_
        repeat (go_big_quiet_step ((first | (rename_i z; go_at_call 56; exact Calls.grow z (cmpT (ry.below z.le) (rx.below z.le) hwy hwx ⟨_, _, _, rfl⟩ ⟨_, _, _, rfl⟩)))))
        refine wpQuiet_nil ?_
        intro w8 hb8
        have HR8 := Lib.hid (HROW.out w8 hb8)
        have HG8 := Lib.hid (Off.tr hg (Off.grown hb8))
        clear hb8 g0 g1 g2 g3
        go_wp2_with fail
        go_roundw
        case rel => exact ⟨H + 1, J, by go_num, rfl, by omega, by omega, hJ, Lib.hid (.inr ⟨x, by rw [show H + 1 - a - 1 = v by have := HV.out; omega]; exact HY.out, leT_not (by omega)⟩), HJ, HR8.out, HG8.out⟩
        case measure => simp [intOf]; omega
    · obtain rfl : I = J := by omega
      have i1 : ¬ (I : Int) < (I : Int) := by omega
      have HP : Hid (Srt leT (ins X (I - a) y)) := Lib.hid (ins_srt leT_trans HSY.out (by
        rcases HI.out with h | h
        · exact .inl (by omega)
        · exact .inr h) HJ.out)
      have hXm : X.length + a ≤ m ∧ m ≤ X.length + a := by have := HA.out; have := HB.out; omega
      obtain ⟨hXm1, hXm2⟩ := hXm
      clear HI HJ
      go_wp2_with fail
      go_loopw [17] (fun kv wr => ∃ (K : Nat), kv = .int .i64 (K : Int) ∧ I ≤ K ∧ K ≤ m ∧ RowT blk N cap wr (A ++ (ins X (K - a) y ++ Z)) ∧ w.grownBy wr (some blk)) (fun kv _ => (intOf kv).toNat)
      case atStart => exact ⟨m, rfl, by omega, Nat.le_refl _, by rw [show m - a = X.length by omega]; exact hr, hg⟩
      case round =>
        obtain ⟨K, rfl, hK1, hK2, hr, hg⟩ := hrel
        by_cases htI : I < K
        · obtain ⟨k, rfl⟩ : ∃ k, K = k + 1 := ⟨K - 1, by omega⟩
          have i2 : (I : Int) < (k : Int) + 1 := by omega
          obtain ⟨x, hx⟩ : ∃ x, X[k - a]? = some x := ⟨_, List.getElem?_eq_getElem (by omega)⟩
          have hst := ins_step A Z (x := y) hx
          rw [show A.length + (k - a) = k by have := HA.out; omega, show k - a + 1 = k + 1 - a by omega] at hst
          obtain ⟨_, _, _, hset, hgx, hgy⟩ := hst
          obtain ⟨ax, lx, qx, ax', lx', qx', ex, ex'⟩ := hr.forms hgx
          obtain ⟨ay, ly, qy, ay', ly', qy', ey, ey'⟩ := hr.forms hgy
          obtain ⟨dx, dx'⟩ := hr.cell hgx
          obtain ⟨dy, dy'⟩ := hr.cell hgy
          have hsw := hr.swap hgy hgx
          rw [hset, ex, ex', ey, ey'] at hsw
          rw [ex] at dx
          rw [ex'] at dx'
          rw [ey] at dy
          rw [ey'] at dy'
          have f0 := hr.froz (k * 2)
          have f1 := hr.froz (k * 2 + 1)
          have f2 := hr.froz ((k + 1) * 2)
          have f3 := hr.froz ((k + 1) * 2 + 1)
          have HSW := Lib.hid hsw
          have jz : (k : Int) + 1 < (N : Int) := by omega
          have jz1 : (k : Int) < (N : Int) := by omega
          have p0 : (0 : Int) ≤ (k : Int) + 1 := by omega
          have e0 : ((k : Int) + 1).toNat = k + 1 := by omega
          clear hsw hgx hgy hset hx ex ex' ey ey'
          go_wp2_with fail
          go_big_region_o
          go_wp2_with fail
          go_roundw
          case rel => exact ⟨k, by go_num, by omega, by omega, HSW.out.1.drew, Off.tr hg (Off.drewG HSW.out.2)⟩
          case measure => simp [intOf]
        · have i2 : ¬ (I : Int) < (K : Int) := by omega
          have HT : Hid (K = I) := Lib.hid (by omega)
          rw [HT.out] at hr
          go_wp2_with fail
          (try simp only [Exit.inBlock, Exit.then])
          refine bodyPost_ret (results_none rfl _ _ _) rfl ?_
          exact ⟨rfl, _, (ins_perm X _ y).trans (List.perm_append_comm (l₁ := [y])), HP.out, hr, hg⟩

end Go.Proofs.YtipjomdldjbenaaGreat

/-! Putting terms in order by their words: merging in place, two runs of two elements or more. Condition: at most 2^20 terms, words of at most 2^24 letters. -/
namespace Go.Proofs.YtipjomdldjbenaaGreat
open Go.RowKit
open Mrg
set_option maxRecDepth 20000

theorem srt_nil_left {Y : List El} (h : Srt leT Y) {X : List El} (hx : X = []) : Srt leT (X ++ Y) := by subst hx; exact h
theorem srt_nil_right {X : List El} (h : Srt leT X) {Y : List El} (hy : Y = []) : Srt leT (X ++ Y) := by subst hy; rw [List.append_nil]; exact h
theorem len_nil {X : List El} (h : X.length = 0) : X = [] := List.eq_nil_of_length_eq_zero h

theorem srt_head {X X1 X2 : List El} (e : X1 ++ X2 = X) (h : Srt leT X) : Srt leT X1 := by subst e; exact (List.pairwise_append.1 h).1
theorem srt_tail {X X1 X2 : List El} (e : X1 ++ X2 = X) (h : Srt leT X) : Srt leT X2 := by subst e; exact (List.pairwise_append.1 h).2.1
theorem perm_mid {A Z X1 X2 Y1 Y2 M1 : List El} (h : M1.Perm (X1 ++ Y1)) : (A ++ (M1 ++ (X2 ++ (Y2 ++ Z)))).Perm (A ++ ((X1 ++ X2) ++ ((Y1 ++ Y2) ++ Z))) := by
  refine List.Perm.append_left A ?_
  have e1 : M1 ++ (X2 ++ (Y2 ++ Z)) = (M1 ++ X2) ++ (Y2 ++ Z) := by simp
  have e2 : (X1 ++ X2) ++ ((Y1 ++ Y2) ++ Z) = (X1 ++ (X2 ++ Y1)) ++ (Y2 ++ Z) := by simp
  rw [e1, e2]
  refine List.Perm.append_right _ ?_
  refine (h.append_right X2).trans ?_
  rw [List.append_assoc]
  exact List.Perm.append_left _ List.perm_append_comm
theorem perm_mid1 {A Z X1 X2 Y1 Y2 : List El} : (A ++ (X1 ++ (Y1 ++ (X2 ++ (Y2 ++ Z))))).Perm (A ++ ((X1 ++ X2) ++ ((Y1 ++ Y2) ++ Z))) := by
  have := perm_mid (A := A) (Z := Z) (X1 := X1) (X2 := X2) (Y1 := Y1) (Y2 := Y2) (List.Perm.refl _)
  rwa [List.append_assoc X1] at this
theorem perm_mid2 {A Z X1 X2 Y1 Y2 M1 : List El} (h : M1.Perm (X1 ++ Y1)) : ((A ++ M1) ++ (X2 ++ (Y2 ++ Z))).Perm (A ++ ((X1 ++ X2) ++ ((Y1 ++ Y2) ++ Z))) := by
  rw [List.append_assoc A]
  exact perm_mid h

set_option maxHeartbeats 8000000 in
theorem sym_mid {blk N cap n : Nat} (ih : SymP blk N cap n) {A X Y Z L : List El} {w : World} {a m b : Nat} (h : RowT blk N cap w L) (hL : L = A ++ (X ++ (Y ++ Z))) (ha : A.length = a) (hm : A.length + X.length = m) (hb : A.length + X.length + Y.length = b) (hX : 2 ≤ X.length) (hY : 2 ≤ Y.length) (hn : X.length + Y.length ≤ n + 1) (hN : N ≤ 1048576) (hwd : WdOk L) (hSX : Srt leT X) (hSY : Srt leT Y) :
  Calls Tryz.prog 107 #[.slice (some ⟨blk, 0, none⟩) N cap, .int .i64 a, .int .i64 m, .int .i64 b, .func (.func 56) #[] #[]] w fun e w' =>
    e = .returned (.tuple #[]) ∧ ∃ M, M.Perm (X ++ Y) ∧ Srt leT M ∧ RowT blk N cap w' (A ++ (M ++ Z)) ∧ w.grownBy w' (some blk) := by
  have hlen := h.1
  have hbN : b ≤ N := by rw [hL] at hlen; simp at hlen; omega
  have mixed : Tryz.prog.follows .mixedOrders = true := by kernel_rfl
  have HA := Lib.hid ha
  have HM := Lib.hid hm
  have HB := Lib.hid hb
  have HNN := Lib.hid hn
  have HWD := Lib.hid hwd
  have HL := Lib.hid hL
  have HSX := Lib.hid hSX
  have HSY := Lib.hid hSY
  have hm1 : a + 2 ≤ m := by omega
  have hb1 : m + 2 ≤ b := by omega
  have i0 : ((m : Int) - (a : Int) == 1) = false := by simp; omega
  have i0b : ((b : Int) - (m : Int) == 1) = false := by simp; omega
  obtain ⟨D, hD⟩ : ∃ D : Nat, D = (a + b) / 2 := ⟨_, rfl⟩
  have hD1 : ((a : Int) + (b : Int)) / 2 = (D : Int) := by omega
  have hD2 : 2 * D ≤ a + b := by omega
  have hD3 : a + b ≤ 2 * D + 1 := by omega
  obtain ⟨E, hE⟩ : ∃ E : Nat, E = D + m := ⟨_, rfl⟩
  have hE1 : (D : Int) + (m : Int) = (E : Int) := by omega
  have hE2 : E ≤ D + m := by omega
  have hE3 : D + m ≤ E := by omega
  obtain ⟨Q, hQ⟩ : ∃ Q : Nat, Q = E - 1 := ⟨_, rfl⟩
  have hQ1 : (E : Int) - 1 = (Q : Int) := by omega
  have hQ2 : Q + 1 ≤ E := by omega
  have hQ3 : E ≤ Q + 1 := by omega
  clear hD hE hQ ha hm hb hL hlen hwd hSX hSY hX hY hn
  by_cases hmd : D < m
  · have k0 : (D : Int) < (m : Int) := by omega
    obtain ⟨lo, hlo⟩ : ∃ lo : Nat, lo = E - b := ⟨_, rfl⟩
    obtain ⟨hi, hhi⟩ : ∃ hi : Nat, hi = D := ⟨_, rfl⟩
    have hlo1 : (E : Int) - (b : Int) = (lo : Int) := by omega
    have HLO : Hid (lo = a ∨ E - lo = b) := Lib.hid (.inr (by omega))
    have HHI : Hid (hi = m ∨ E - hi = m) := Lib.hid (.inr (by omega))
    have b1 : a ≤ lo := by omega
    have b2 : hi ≤ m := by omega
    have b3 : E ≤ b + lo := by omega
    have b4 : m + hi ≤ E := by omega
    have b5 : lo ≤ hi := by omega
    have b6 : hi ≤ D := by omega
    have HLH := Lib.hid (show (E : Int) - (b : Int) = (lo : Int) ∧ hi = D from ⟨by omega, hhi⟩)
    clear hlo hhi
    go_enter Tryz.func107, Tryz.ntmps107
    go_wp2_with fail
    go_loopw [20, 21] (fun sv rv wr => ∃ (s r : Nat), sv = .int .i64 (s : Int) ∧ rv = .int .i64 (r : Int) ∧ lo ≤ s ∧ s ≤ r ∧ r ≤ hi ∧ Hid (s = lo ∨ ∃ x y, X[s - 1 - a]? = some x ∧ Y[E - s - m]? = some y ∧ a + 1 ≤ s ∧ leT x y) ∧ Hid (r = hi ∨ ∃ x y, X[r - a]? = some x ∧ Y[E - 1 - r - m]? = some y ∧ m + r + 1 ≤ E ∧ leT y x) ∧ RowT blk N cap wr L ∧ w.grownBy wr (some blk)) (fun sv rv _ => (intOf rv).toNat - (intOf sv).toNat)
    case atStart => exact ⟨lo, hi, by first | rfl | (rw [HLH.out.1]), by first | rfl | (rw [HLH.out.2]), Nat.le_refl _, b5, Nat.le_refl _, Lib.hid (.inl rfl), Lib.hid (.inl rfl), h, World.grownBy.refl _ _⟩
    case round =>
      obtain ⟨s, r, rfl, rfl, hs1, hs2, hs3, HS0, HR0, hr, hg⟩ := hrel
      by_cases hlt : s < r
      · have i1 : (s : Int) < (r : Int) := by omega
        obtain ⟨C, hC⟩ : ∃ C : Nat, C = (s + r) / 2 := ⟨_, rfl⟩
        have hC1 : ((s : Int) + (r : Int)) / 2 = (C : Int) := by omega
        have hC2 : s ≤ C ∧ C < r := by omega
        obtain ⟨G, hG⟩ : ∃ G : Nat, G = Q - C := ⟨_, rfl⟩
        have hG1 : (Q : Int) - (C : Int) = (G : Int) := by omega
        have hG2 : m ≤ G ∧ G < b := by omega
        obtain ⟨x, hx⟩ : ∃ x, X[C - a]? = some x := ⟨_, List.getElem?_eq_getElem (by have := HA.out; have := HM.out; omega)⟩
        obtain ⟨y, hy⟩ : ∃ y, Y[G - m]? = some y := ⟨_, List.getElem?_eq_getElem (by have := HA.out; have := HM.out; have := HB.out; omega)⟩
        have hgx : L[C]? = some x := by
          have := get_mid A X (Y ++ Z) hx
          rw [show A.length + (C - a) = C by have := HA.out; omega] at this
          rw [HL.out]; exact this
        have hgy : L[G]? = some y := by
          have := get_mid (A ++ X) Y Z hy
          rw [List.length_append, show A.length + X.length + (G - m) = G by have := HM.out; omega] at this
          rw [HL.out]; simpa using this
        obtain ⟨ax, lx, qx, ax', lx', qx', ex, ex'⟩ := hr.forms hgx
        obtain ⟨cx, cx'⟩ := hr.cell hgx
        have rx := (hr.reads hgx).1
        have hwx : x.x.length ≤ 16777216 := hr.wds HWD.out hgx
        rw [ex] at cx rx
        rw [ex'] at cx'
        obtain ⟨ay, ly, qy, ay', ly', qy', ey, ey'⟩ := hr.forms hgy
        obtain ⟨cy, cy'⟩ := hr.cell hgy
        have ry := (hr.reads hgy).1
        have hwy : y.x.length ≤ 16777216 := hr.wds HWD.out hgy
        rw [ey] at cy ry
        rw [ey'] at cy'
        have g0 := fun z : GW wr => z.cell cx
        have g1 := fun z : GW wr => z.cell cx'
        have g2 := fun z : GW wr => z.cell cy
        have g3 := fun z : GW wr => z.cell cy'
        have jz : (C : Int) < (N : Int) := by omega
        have jz1 : (G : Int) < (N : Int) := by omega
        have HX := Lib.hid hx
        have HY := Lib.hid hy
        have HG := Lib.hid hG
        have HROW : Hid (∀ w8, Below wr.heap.size wr w8 → RowT blk N cap w8 L) := Lib.hid (fun w8 hb => hr.below hb)
        obtain ⟨hC3, hC4⟩ := hC2
        clear hgx hgy hx hy ex ex' ey ey' hC hG cx cx' cy cy' hG2
        by_cases hless : cmpW y.x x.x < 0
        · have hless2 := decide_eq_true hless
          go_wp2_with fail
          refine region_grow (by kernel_rfl) (by kernel_rfl) ?_
          repeat (go_big_quiet_step ((first | (rename_i z; go_at_call 56; exact Calls.grow z (cmpT (ry.below z.le) (rx.below z.le) hwy hwx ⟨_, _, _, rfl⟩ ⟨_, _, _, rfl⟩)))))
          refine wpQuiet_nil ?_
          intro w8 hb8
          have HR8 := Lib.hid (HROW.out w8 hb8)
          have HG8 := Lib.hid (Off.tr hg (Off.grown hb8))
          clear hb8 g0 g1 g2 g3
          go_wp2_with fail
          go_roundw
          case rel => exact ⟨s, C, rfl, rfl, hs1, by omega, by omega, HS0, Lib.hid (.inr ⟨x, y, HX.out, by rw [show E - 1 - C - m = G - m by have := HG.out; omega]; exact HY.out, by omega, leT_lt hless⟩), HR8.out, HG8.out⟩
          case measure => simp [intOf]; omega
        · have hless2 := decide_eq_false hless
          go_wp2_with fail
          refine region_grow (by kernel_rfl) (by kernel_rfl) ?_
          repeat (go_big_quiet_step ((first | (rename_i z; go_at_call 56; exact Calls.grow z (cmpT (ry.below z.le) (rx.below z.le) hwy hwx ⟨_, _, _, rfl⟩ ⟨_, _, _, rfl⟩)))))
          refine wpQuiet_nil ?_
          intro w8 hb8
          have HR8 := Lib.hid (HROW.out w8 hb8)
          have HG8 := Lib.hid (Off.tr hg (Off.grown hb8))
          clear hb8 g0 g1 g2 g3
          go_wp2_with fail
          go_roundw
          case rel => exact ⟨C + 1, r, by go_num, rfl, by omega, by omega, hs3, Lib.hid (.inr ⟨x, y, by rw [show C + 1 - 1 - a = C - a by omega]; exact HX.out, by rw [show E - (C + 1) - m = G - m by have := HG.out; omega]; exact HY.out, by omega, leT_not (by omega)⟩), HR0, HR8.out, HG8.out⟩
          case measure => simp [intOf]; omega
      · obtain rfl : s = r := by omega
        have i1 : ¬ (s : Int) < (s : Int) := by omega
        obtain ⟨F, hF⟩ : ∃ F : Nat, F = E - s := ⟨_, rfl⟩
        have hF1 : (E : Int) - (s : Int) = (F : Int) := by omega
        have hF2 : m ≤ F ∧ F ≤ b := by omega
        have hF3 : F + s ≤ D + m := by omega
        have hF4 : D + m ≤ F + s := by omega
        obtain ⟨hF5, hF6⟩ := hF2
        have HXe : Hid (X.take (s - a) ++ X.drop (s - a) = X) := Lib.hid (List.take_append_drop _ _)
        have HYe : Hid (Y.take (F - m) ++ Y.drop (F - m) = Y) := Lib.hid (List.take_append_drop _ _)
        have HX1 : Hid ((X.take (s - a)).length = s - a) := Lib.hid (by have := HA.out; have := HM.out; simp; omega)
        have HX2 : Hid ((X.drop (s - a)).length = m - s) := Lib.hid (by have := HA.out; have := HM.out; simp; omega)
        have HY1 : Hid ((Y.take (F - m)).length = F - m) := Lib.hid (by have := HA.out; have := HM.out; have := HB.out; simp; omega)
        have HY2 : Hid ((Y.drop (F - m)).length = b - F) := Lib.hid (by have := HA.out; have := HM.out; have := HB.out; simp; omega)
        have H12 : Hid (∀ p ∈ X.take (s - a), ∀ q ∈ Y.drop (F - m), leT p q) := Lib.hid (by
          rcases HS0.out with e | ⟨x, y, hx, hy, h1, hle⟩
          · rcases HLO.out with e2 | e2
            · rw [len_nil (X := X.take (s - a)) (by have := HX1.out; omega)]; intro p hp; cases hp
            · rw [len_nil (X := Y.drop (F - m)) (by have := HY2.out; omega)]; intro p hp q hq; cases hq
          · have := cross leT_trans HSX.out HSY.out hx hy hle
            rw [show s - 1 - a + 1 = s - a by omega, show E - s - m = F - m by omega] at this
            exact this)
        have H21 : Hid (∀ p ∈ Y.take (F - m), ∀ q ∈ X.drop (s - a), leT p q) := Lib.hid (by
          rcases HR0.out with e | ⟨x, y, hx, hy, h1, hle⟩
          · rcases HHI.out with e2 | e2
            · rw [len_nil (X := X.drop (s - a)) (by have := HX2.out; omega)]; intro p hp q hq; cases hq
            · rw [len_nil (X := Y.take (F - m)) (by have := HY1.out; omega)]; intro p hp; cases hp
          · have := cross leT_trans HSY.out HSX.out hy hx hle
            rw [show E - 1 - s - m + 1 = F - m by omega] at this
            exact this)
        generalize X.take (s - a) = X1 at *
        generalize X.drop (s - a) = X2 at *
        generalize Y.take (F - m) = Y1 at *
        generalize Y.drop (F - m) = Y2 at *
        clear HS0 HR0 HLO HHI hF
        by_cases hrot : s < m ∧ m < F
        · have j0 : (s : Int) < (m : Int) := by omega
          have j1 : (m : Int) < (F : Int) := by omega
          go_wp2_with fail
          refine (rotateT (A := A ++ X1) (X := X2) (Y := Y1) (Z := Y2 ++ Z) hr (by rw [HL.out, ← HXe.out, ← HYe.out]; simp) (by rw [List.length_append]; have := HX1.out; have := HA.out; omega) (by rw [List.length_append]; have := HX1.out; have := HX2.out; have := HA.out; omega) (by rw [List.length_append]; have := HX1.out; have := HX2.out; have := HY1.out; have := HA.out; omega) (by have := HX2.out; omega) (by have := HY1.out; omega) hN).mono ?_
          rintro e w5 ⟨rfl, hr5, hg5⟩
          have hr5' : RowT blk N cap w5 (A ++ (X1 ++ (Y1 ++ (X2 ++ (Y2 ++ Z))))) := by simpa using hr5
          have hg5' := Off.tr hg hg5
          clear hr5 hg5 j0 j1
          by_cases hLf : a < s ∧ s < D
          · have j2 : (a : Int) < (s : Int) := by omega
            have j3 : (s : Int) < (D : Int) := by omega
            go_wp2_with fail
            refine (ih (A := A) (X := X1) (Y := Y1) (Z := X2 ++ (Y2 ++ Z)) hr5' rfl HA.out (by have := HX1.out; have := HA.out; omega) (by have := HX1.out; have := HY1.out; have := HA.out; omega) (by have := HX1.out; omega) (by have := HY1.out; omega) (by have := HX1.out; have := HY1.out; have := HNN.out; have := HA.out; have := HM.out; have := HB.out; omega) hN (wdOk_perm HWD.out (by rw [HL.out, ← HXe.out, ← HYe.out]; exact perm_mid1)) (srt_head HXe.out HSX.out) (srt_head HYe.out HSY.out)).mono ?_
            rintro e w6 ⟨rfl, M1, hP1, hS1, hr6, hg6⟩
            have hr6' : RowT blk N cap w6 ((A ++ M1) ++ (X2 ++ (Y2 ++ Z))) := by simpa using hr6
            have hg6' := Off.tr hg5' hg6
            clear hr6 hg6 j2 j3
            by_cases hR : D < F ∧ F < b
            · have j4 : (D : Int) < (F : Int) := by omega
              have j5 : (F : Int) < (b : Int) := by omega
              go_wp2_with fail
              all_goals
                refine (ih (A := A ++ M1) (X := X2) (Y := Y2) (Z := Z) hr6' (by simp) (by rw [List.length_append, (hP1).length_eq, List.length_append]; have := HX1.out; have := HY1.out; have := HA.out; omega) (by rw [List.length_append, (hP1).length_eq, List.length_append]; have := HX1.out; have := HY1.out; have := HX2.out; have := HA.out; omega) (by rw [List.length_append, (hP1).length_eq, List.length_append]; have := HX1.out; have := HY1.out; have := HX2.out; have := HY2.out; have := HA.out; omega) (by have := HX2.out; omega) (by have := HY2.out; omega) (by have := HX2.out; have := HY2.out; have := HNN.out; have := HA.out; have := HM.out; have := HB.out; omega) hN (wdOk_perm HWD.out (by rw [HL.out, ← HXe.out, ← HYe.out]; exact perm_mid2 hP1)) (srt_tail HXe.out HSX.out) (srt_tail HYe.out HSY.out)).mono ?_
                rintro e w7 ⟨rfl, M2, hP2, hS2, hr7, hg7⟩
                have hfin := halves (le := leT) (X1 := X1) (X2 := X2) (Y1 := Y1) (Y2 := Y2) (M1 := M1) (M2 := M2) (by rw [HXe.out]; exact HSX.out) (by rw [HYe.out]; exact HSY.out) H12.out H21.out hP1 hP2 hS1 hS2
                rw [HXe.out, HYe.out] at hfin
                have HFIN := Lib.hid hfin
                clear hfin
                go_wp2_with fail
                all_goals first | go_end0 | ((try simp only [Exit.inBlock, Exit.then]); refine bodyPost_ret (results_none rfl _ _ _) rfl ?_)
                all_goals exact ⟨rfl, _, HFIN.out.2, HFIN.out.1, by simpa using hr7, (Off.tr hg6' hg7)⟩
            · have HS2 : Hid (Srt leT (X2 ++ Y2)) := Lib.hid (by
                by_cases hF : F < b
                · exact srt_nil_left (srt_tail HYe.out HSY.out) (len_nil (by have := HX2.out; omega))
                · exact srt_nil_right (srt_tail HXe.out HSX.out) (len_nil (by have := HY2.out; omega)))
              have HRow := Lib.hid hr6'
              have HG := Lib.hid hg6'
              by_cases hF : D < F
              · have j4 : (D : Int) < (F : Int) := by omega
                have j5 : ¬ (F : Int) < (b : Int) := by omega
                have hfin := halves (le := leT) (X1 := X1) (X2 := X2) (Y1 := Y1) (Y2 := Y2) (M1 := M1) (M2 := (X2 ++ Y2)) (by rw [HXe.out]; exact HSX.out) (by rw [HYe.out]; exact HSY.out) H12.out H21.out hP1 (List.Perm.refl _) hS1 HS2.out
                rw [HXe.out, HYe.out] at hfin
                have HFIN := Lib.hid hfin
                clear hfin
                go_wp2_with fail
                all_goals first | go_end0 | ((try simp only [Exit.inBlock, Exit.then]); refine bodyPost_ret (results_none rfl _ _ _) rfl ?_)
                all_goals exact ⟨rfl, _, HFIN.out.2, HFIN.out.1, by simpa using HRow.out, HG.out⟩
              · have j4 : ¬ (D : Int) < (F : Int) := by omega
                have hfin := halves (le := leT) (X1 := X1) (X2 := X2) (Y1 := Y1) (Y2 := Y2) (M1 := M1) (M2 := (X2 ++ Y2)) (by rw [HXe.out]; exact HSX.out) (by rw [HYe.out]; exact HSY.out) H12.out H21.out hP1 (List.Perm.refl _) hS1 HS2.out
                rw [HXe.out, HYe.out] at hfin
                have HFIN := Lib.hid hfin
                clear hfin
                go_wp2_with fail
                all_goals first | go_end0 | ((try simp only [Exit.inBlock, Exit.then]); refine bodyPost_ret (results_none rfl _ _ _) rfl ?_)
                all_goals exact ⟨rfl, _, HFIN.out.2, HFIN.out.1, by simpa using HRow.out, HG.out⟩
          · have HS1 : Hid (Srt leT (X1 ++ Y1)) := Lib.hid (by
              by_cases hF : a < s
              · exact srt_nil_right (srt_head HXe.out HSX.out) (len_nil (by have := HY1.out; omega))
              · exact srt_nil_left (srt_head HYe.out HSY.out) (len_nil (by have := HX1.out; omega)))
            have hr6' : RowT blk N cap w5 ((A ++ (X1 ++ Y1)) ++ (X2 ++ (Y2 ++ Z))) := by simpa using hr5'
            have hg6' := hg5'
            by_cases hF1 : a < s
            · have j2 : (a : Int) < (s : Int) := by omega
              have j3 : ¬ (s : Int) < (D : Int) := by omega
              by_cases hR : D < F ∧ F < b
              · have j4 : (D : Int) < (F : Int) := by omega
                have j5 : (F : Int) < (b : Int) := by omega
                go_wp2_with fail
                all_goals
                  refine (ih (A := A ++ (X1 ++ Y1)) (X := X2) (Y := Y2) (Z := Z) hr6' (by simp) (by rw [List.length_append, ((List.Perm.refl _)).length_eq, List.length_append]; have := HX1.out; have := HY1.out; have := HA.out; omega) (by rw [List.length_append, ((List.Perm.refl _)).length_eq, List.length_append]; have := HX1.out; have := HY1.out; have := HX2.out; have := HA.out; omega) (by rw [List.length_append, ((List.Perm.refl _)).length_eq, List.length_append]; have := HX1.out; have := HY1.out; have := HX2.out; have := HY2.out; have := HA.out; omega) (by have := HX2.out; omega) (by have := HY2.out; omega) (by have := HX2.out; have := HY2.out; have := HNN.out; have := HA.out; have := HM.out; have := HB.out; omega) hN (wdOk_perm HWD.out (by rw [HL.out, ← HXe.out, ← HYe.out]; exact perm_mid2 (List.Perm.refl _))) (srt_tail HXe.out HSX.out) (srt_tail HYe.out HSY.out)).mono ?_
                  rintro e w7 ⟨rfl, M2, hP2, hS2, hr7, hg7⟩
                  have hfin := halves (le := leT) (X1 := X1) (X2 := X2) (Y1 := Y1) (Y2 := Y2) (M1 := (X1 ++ Y1)) (M2 := M2) (by rw [HXe.out]; exact HSX.out) (by rw [HYe.out]; exact HSY.out) H12.out H21.out (List.Perm.refl _) hP2 HS1.out hS2
                  rw [HXe.out, HYe.out] at hfin
                  have HFIN := Lib.hid hfin
                  clear hfin
                  go_wp2_with fail
                  all_goals first | go_end0 | ((try simp only [Exit.inBlock, Exit.then]); refine bodyPost_ret (results_none rfl _ _ _) rfl ?_)
                  all_goals exact ⟨rfl, _, HFIN.out.2, HFIN.out.1, by simpa using hr7, (Off.tr hg6' hg7)⟩
              · have HS2 : Hid (Srt leT (X2 ++ Y2)) := Lib.hid (by
                  by_cases hF : F < b
                  · exact srt_nil_left (srt_tail HYe.out HSY.out) (len_nil (by have := HX2.out; omega))
                  · exact srt_nil_right (srt_tail HXe.out HSX.out) (len_nil (by have := HY2.out; omega)))
                have HRow := Lib.hid hr6'
                have HG := Lib.hid hg6'
                by_cases hF : D < F
                · have j4 : (D : Int) < (F : Int) := by omega
                  have j5 : ¬ (F : Int) < (b : Int) := by omega
                  have hfin := halves (le := leT) (X1 := X1) (X2 := X2) (Y1 := Y1) (Y2 := Y2) (M1 := (X1 ++ Y1)) (M2 := (X2 ++ Y2)) (by rw [HXe.out]; exact HSX.out) (by rw [HYe.out]; exact HSY.out) H12.out H21.out (List.Perm.refl _) (List.Perm.refl _) HS1.out HS2.out
                  rw [HXe.out, HYe.out] at hfin
                  have HFIN := Lib.hid hfin
                  clear hfin
                  go_wp2_with fail
                  all_goals first | go_end0 | ((try simp only [Exit.inBlock, Exit.then]); refine bodyPost_ret (results_none rfl _ _ _) rfl ?_)
                  all_goals exact ⟨rfl, _, HFIN.out.2, HFIN.out.1, by simpa using HRow.out, HG.out⟩
                · have j4 : ¬ (D : Int) < (F : Int) := by omega
                  have hfin := halves (le := leT) (X1 := X1) (X2 := X2) (Y1 := Y1) (Y2 := Y2) (M1 := (X1 ++ Y1)) (M2 := (X2 ++ Y2)) (by rw [HXe.out]; exact HSX.out) (by rw [HYe.out]; exact HSY.out) H12.out H21.out (List.Perm.refl _) (List.Perm.refl _) HS1.out HS2.out
                  rw [HXe.out, HYe.out] at hfin
                  have HFIN := Lib.hid hfin
                  clear hfin
                  go_wp2_with fail
                  all_goals first | go_end0 | ((try simp only [Exit.inBlock, Exit.then]); refine bodyPost_ret (results_none rfl _ _ _) rfl ?_)
                  all_goals exact ⟨rfl, _, HFIN.out.2, HFIN.out.1, by simpa using HRow.out, HG.out⟩
            · have j2 : ¬ (a : Int) < (s : Int) := by omega
              by_cases hR : D < F ∧ F < b
              · have j4 : (D : Int) < (F : Int) := by omega
                have j5 : (F : Int) < (b : Int) := by omega
                go_wp2_with fail
                all_goals
                  refine (ih (A := A ++ (X1 ++ Y1)) (X := X2) (Y := Y2) (Z := Z) hr6' (by simp) (by rw [List.length_append, ((List.Perm.refl _)).length_eq, List.length_append]; have := HX1.out; have := HY1.out; have := HA.out; omega) (by rw [List.length_append, ((List.Perm.refl _)).length_eq, List.length_append]; have := HX1.out; have := HY1.out; have := HX2.out; have := HA.out; omega) (by rw [List.length_append, ((List.Perm.refl _)).length_eq, List.length_append]; have := HX1.out; have := HY1.out; have := HX2.out; have := HY2.out; have := HA.out; omega) (by have := HX2.out; omega) (by have := HY2.out; omega) (by have := HX2.out; have := HY2.out; have := HNN.out; have := HA.out; have := HM.out; have := HB.out; omega) hN (wdOk_perm HWD.out (by rw [HL.out, ← HXe.out, ← HYe.out]; exact perm_mid2 (List.Perm.refl _))) (srt_tail HXe.out HSX.out) (srt_tail HYe.out HSY.out)).mono ?_
                  rintro e w7 ⟨rfl, M2, hP2, hS2, hr7, hg7⟩
                  have hfin := halves (le := leT) (X1 := X1) (X2 := X2) (Y1 := Y1) (Y2 := Y2) (M1 := (X1 ++ Y1)) (M2 := M2) (by rw [HXe.out]; exact HSX.out) (by rw [HYe.out]; exact HSY.out) H12.out H21.out (List.Perm.refl _) hP2 HS1.out hS2
                  rw [HXe.out, HYe.out] at hfin
                  have HFIN := Lib.hid hfin
                  clear hfin
                  go_wp2_with fail
                  all_goals first | go_end0 | ((try simp only [Exit.inBlock, Exit.then]); refine bodyPost_ret (results_none rfl _ _ _) rfl ?_)
                  all_goals exact ⟨rfl, _, HFIN.out.2, HFIN.out.1, by simpa using hr7, (Off.tr hg6' hg7)⟩
              · have HS2 : Hid (Srt leT (X2 ++ Y2)) := Lib.hid (by
                  by_cases hF : F < b
                  · exact srt_nil_left (srt_tail HYe.out HSY.out) (len_nil (by have := HX2.out; omega))
                  · exact srt_nil_right (srt_tail HXe.out HSX.out) (len_nil (by have := HY2.out; omega)))
                have HRow := Lib.hid hr6'
                have HG := Lib.hid hg6'
                by_cases hF : D < F
                · have j4 : (D : Int) < (F : Int) := by omega
                  have j5 : ¬ (F : Int) < (b : Int) := by omega
                  have hfin := halves (le := leT) (X1 := X1) (X2 := X2) (Y1 := Y1) (Y2 := Y2) (M1 := (X1 ++ Y1)) (M2 := (X2 ++ Y2)) (by rw [HXe.out]; exact HSX.out) (by rw [HYe.out]; exact HSY.out) H12.out H21.out (List.Perm.refl _) (List.Perm.refl _) HS1.out HS2.out
                  rw [HXe.out, HYe.out] at hfin
                  have HFIN := Lib.hid hfin
                  clear hfin
                  go_wp2_with fail
                  all_goals first | go_end0 | ((try simp only [Exit.inBlock, Exit.then]); refine bodyPost_ret (results_none rfl _ _ _) rfl ?_)
                  all_goals exact ⟨rfl, _, HFIN.out.2, HFIN.out.1, by simpa using HRow.out, HG.out⟩
                · have j4 : ¬ (D : Int) < (F : Int) := by omega
                  have hfin := halves (le := leT) (X1 := X1) (X2 := X2) (Y1 := Y1) (Y2 := Y2) (M1 := (X1 ++ Y1)) (M2 := (X2 ++ Y2)) (by rw [HXe.out]; exact HSX.out) (by rw [HYe.out]; exact HSY.out) H12.out H21.out (List.Perm.refl _) (List.Perm.refl _) HS1.out HS2.out
                  rw [HXe.out, HYe.out] at hfin
                  have HFIN := Lib.hid hfin
                  clear hfin
                  go_wp2_with fail
                  all_goals first | go_end0 | ((try simp only [Exit.inBlock, Exit.then]); refine bodyPost_ret (results_none rfl _ _ _) rfl ?_)
                  all_goals exact ⟨rfl, _, HFIN.out.2, HFIN.out.1, by simpa using HRow.out, HG.out⟩
        · have hr5' : RowT blk N cap wr (A ++ (X1 ++ (Y1 ++ (X2 ++ (Y2 ++ Z))))) := by
            rw [HL.out, ← HXe.out, ← HYe.out] at hr
            by_cases hF : s < m
            · have e := len_nil (X := Y1) (by have := HY1.out; omega)
              rw [e] at hr ⊢
              simpa using hr
            · have e := len_nil (X := X2) (by have := HX2.out; omega)
              rw [e] at hr ⊢
              simpa using hr
          by_cases hF0 : s < m
          · have j0 : (s : Int) < (m : Int) := by omega
            have j1 : ¬ (m : Int) < (F : Int) := by omega
            by_cases hLf : a < s ∧ s < D
            · have j2 : (a : Int) < (s : Int) := by omega
              have j3 : (s : Int) < (D : Int) := by omega
              go_wp2_with fail
              refine (ih (A := A) (X := X1) (Y := Y1) (Z := X2 ++ (Y2 ++ Z)) hr5' rfl HA.out (by have := HX1.out; have := HA.out; omega) (by have := HX1.out; have := HY1.out; have := HA.out; omega) (by have := HX1.out; omega) (by have := HY1.out; omega) (by have := HX1.out; have := HY1.out; have := HNN.out; have := HA.out; have := HM.out; have := HB.out; omega) hN (wdOk_perm HWD.out (by rw [HL.out, ← HXe.out, ← HYe.out]; exact perm_mid1)) (srt_head HXe.out HSX.out) (srt_head HYe.out HSY.out)).mono ?_
              rintro e w6 ⟨rfl, M1, hP1, hS1, hr6, hg6⟩
              have hr6' : RowT blk N cap w6 ((A ++ M1) ++ (X2 ++ (Y2 ++ Z))) := by simpa using hr6
              have hg6' := Off.tr hg hg6
              clear hr6 hg6 j2 j3
              by_cases hR : D < F ∧ F < b
              · have j4 : (D : Int) < (F : Int) := by omega
                have j5 : (F : Int) < (b : Int) := by omega
                go_wp2_with fail
                all_goals
                  refine (ih (A := A ++ M1) (X := X2) (Y := Y2) (Z := Z) hr6' (by simp) (by rw [List.length_append, (hP1).length_eq, List.length_append]; have := HX1.out; have := HY1.out; have := HA.out; omega) (by rw [List.length_append, (hP1).length_eq, List.length_append]; have := HX1.out; have := HY1.out; have := HX2.out; have := HA.out; omega) (by rw [List.length_append, (hP1).length_eq, List.length_append]; have := HX1.out; have := HY1.out; have := HX2.out; have := HY2.out; have := HA.out; omega) (by have := HX2.out; omega) (by have := HY2.out; omega) (by have := HX2.out; have := HY2.out; have := HNN.out; have := HA.out; have := HM.out; have := HB.out; omega) hN (wdOk_perm HWD.out (by rw [HL.out, ← HXe.out, ← HYe.out]; exact perm_mid2 hP1)) (srt_tail HXe.out HSX.out) (srt_tail HYe.out HSY.out)).mono ?_
                  rintro e w7 ⟨rfl, M2, hP2, hS2, hr7, hg7⟩
                  have hfin := halves (le := leT) (X1 := X1) (X2 := X2) (Y1 := Y1) (Y2 := Y2) (M1 := M1) (M2 := M2) (by rw [HXe.out]; exact HSX.out) (by rw [HYe.out]; exact HSY.out) H12.out H21.out hP1 hP2 hS1 hS2
                  rw [HXe.out, HYe.out] at hfin
                  have HFIN := Lib.hid hfin
                  clear hfin
                  go_wp2_with fail
                  all_goals first | go_end0 | ((try simp only [Exit.inBlock, Exit.then]); refine bodyPost_ret (results_none rfl _ _ _) rfl ?_)
                  all_goals exact ⟨rfl, _, HFIN.out.2, HFIN.out.1, by simpa using hr7, (Off.tr hg6' hg7)⟩
              · have HS2 : Hid (Srt leT (X2 ++ Y2)) := Lib.hid (by
                  by_cases hF : F < b
                  · exact srt_nil_left (srt_tail HYe.out HSY.out) (len_nil (by have := HX2.out; omega))
                  · exact srt_nil_right (srt_tail HXe.out HSX.out) (len_nil (by have := HY2.out; omega)))
                have HRow := Lib.hid hr6'
                have HG := Lib.hid hg6'
                by_cases hF : D < F
                · have j4 : (D : Int) < (F : Int) := by omega
                  have j5 : ¬ (F : Int) < (b : Int) := by omega
                  have hfin := halves (le := leT) (X1 := X1) (X2 := X2) (Y1 := Y1) (Y2 := Y2) (M1 := M1) (M2 := (X2 ++ Y2)) (by rw [HXe.out]; exact HSX.out) (by rw [HYe.out]; exact HSY.out) H12.out H21.out hP1 (List.Perm.refl _) hS1 HS2.out
                  rw [HXe.out, HYe.out] at hfin
                  have HFIN := Lib.hid hfin
                  clear hfin
                  go_wp2_with fail
                  all_goals first | go_end0 | ((try simp only [Exit.inBlock, Exit.then]); refine bodyPost_ret (results_none rfl _ _ _) rfl ?_)
                  all_goals exact ⟨rfl, _, HFIN.out.2, HFIN.out.1, by simpa using HRow.out, HG.out⟩
                · have j4 : ¬ (D : Int) < (F : Int) := by omega
                  have hfin := halves (le := leT) (X1 := X1) (X2 := X2) (Y1 := Y1) (Y2 := Y2) (M1 := M1) (M2 := (X2 ++ Y2)) (by rw [HXe.out]; exact HSX.out) (by rw [HYe.out]; exact HSY.out) H12.out H21.out hP1 (List.Perm.refl _) hS1 HS2.out
                  rw [HXe.out, HYe.out] at hfin
                  have HFIN := Lib.hid hfin
                  clear hfin
                  go_wp2_with fail
                  all_goals first | go_end0 | ((try simp only [Exit.inBlock, Exit.then]); refine bodyPost_ret (results_none rfl _ _ _) rfl ?_)
                  all_goals exact ⟨rfl, _, HFIN.out.2, HFIN.out.1, by simpa using HRow.out, HG.out⟩
            · have HS1 : Hid (Srt leT (X1 ++ Y1)) := Lib.hid (by
                by_cases hF : a < s
                · exact srt_nil_right (srt_head HXe.out HSX.out) (len_nil (by have := HY1.out; omega))
                · exact srt_nil_left (srt_head HYe.out HSY.out) (len_nil (by have := HX1.out; omega)))
              have hr6' : RowT blk N cap wr ((A ++ (X1 ++ Y1)) ++ (X2 ++ (Y2 ++ Z))) := by simpa using hr5'
              have hg6' := hg
              by_cases hF1 : a < s
              · have j2 : (a : Int) < (s : Int) := by omega
                have j3 : ¬ (s : Int) < (D : Int) := by omega
                by_cases hR : D < F ∧ F < b
                · have j4 : (D : Int) < (F : Int) := by omega
                  have j5 : (F : Int) < (b : Int) := by omega
                  go_wp2_with fail
                  all_goals
                    refine (ih (A := A ++ (X1 ++ Y1)) (X := X2) (Y := Y2) (Z := Z) hr6' (by simp) (by rw [List.length_append, ((List.Perm.refl _)).length_eq, List.length_append]; have := HX1.out; have := HY1.out; have := HA.out; omega) (by rw [List.length_append, ((List.Perm.refl _)).length_eq, List.length_append]; have := HX1.out; have := HY1.out; have := HX2.out; have := HA.out; omega) (by rw [List.length_append, ((List.Perm.refl _)).length_eq, List.length_append]; have := HX1.out; have := HY1.out; have := HX2.out; have := HY2.out; have := HA.out; omega) (by have := HX2.out; omega) (by have := HY2.out; omega) (by have := HX2.out; have := HY2.out; have := HNN.out; have := HA.out; have := HM.out; have := HB.out; omega) hN (wdOk_perm HWD.out (by rw [HL.out, ← HXe.out, ← HYe.out]; exact perm_mid2 (List.Perm.refl _))) (srt_tail HXe.out HSX.out) (srt_tail HYe.out HSY.out)).mono ?_
                    rintro e w7 ⟨rfl, M2, hP2, hS2, hr7, hg7⟩
                    have hfin := halves (le := leT) (X1 := X1) (X2 := X2) (Y1 := Y1) (Y2 := Y2) (M1 := (X1 ++ Y1)) (M2 := M2) (by rw [HXe.out]; exact HSX.out) (by rw [HYe.out]; exact HSY.out) H12.out H21.out (List.Perm.refl _) hP2 HS1.out hS2
                    rw [HXe.out, HYe.out] at hfin
                    have HFIN := Lib.hid hfin
                    clear hfin
                    go_wp2_with fail
                    all_goals first | go_end0 | ((try simp only [Exit.inBlock, Exit.then]); refine bodyPost_ret (results_none rfl _ _ _) rfl ?_)
                    all_goals exact ⟨rfl, _, HFIN.out.2, HFIN.out.1, by simpa using hr7, (Off.tr hg6' hg7)⟩
                · have HS2 : Hid (Srt leT (X2 ++ Y2)) := Lib.hid (by
                    by_cases hF : F < b
                    · exact srt_nil_left (srt_tail HYe.out HSY.out) (len_nil (by have := HX2.out; omega))
                    · exact srt_nil_right (srt_tail HXe.out HSX.out) (len_nil (by have := HY2.out; omega)))
                  have HRow := Lib.hid hr6'
                  have HG := Lib.hid hg6'
                  by_cases hF : D < F
                  · have j4 : (D : Int) < (F : Int) := by omega
                    have j5 : ¬ (F : Int) < (b : Int) := by omega
                    have hfin := halves (le := leT) (X1 := X1) (X2 := X2) (Y1 := Y1) (Y2 := Y2) (M1 := (X1 ++ Y1)) (M2 := (X2 ++ Y2)) (by rw [HXe.out]; exact HSX.out) (by rw [HYe.out]; exact HSY.out) H12.out H21.out (List.Perm.refl _) (List.Perm.refl _) HS1.out HS2.out
                    rw [HXe.out, HYe.out] at hfin
                    have HFIN := Lib.hid hfin
                    clear hfin
                    go_wp2_with fail
                    all_goals first | go_end0 | ((try simp only [Exit.inBlock, Exit.then]); refine bodyPost_ret (results_none rfl _ _ _) rfl ?_)
                    all_goals exact ⟨rfl, _, HFIN.out.2, HFIN.out.1, by simpa using HRow.out, HG.out⟩
                  · have j4 : ¬ (D : Int) < (F : Int) := by omega
                    have hfin := halves (le := leT) (X1 := X1) (X2 := X2) (Y1 := Y1) (Y2 := Y2) (M1 := (X1 ++ Y1)) (M2 := (X2 ++ Y2)) (by rw [HXe.out]; exact HSX.out) (by rw [HYe.out]; exact HSY.out) H12.out H21.out (List.Perm.refl _) (List.Perm.refl _) HS1.out HS2.out
                    rw [HXe.out, HYe.out] at hfin
                    have HFIN := Lib.hid hfin
                    clear hfin
                    go_wp2_with fail
                    all_goals first | go_end0 | ((try simp only [Exit.inBlock, Exit.then]); refine bodyPost_ret (results_none rfl _ _ _) rfl ?_)
                    all_goals exact ⟨rfl, _, HFIN.out.2, HFIN.out.1, by simpa using HRow.out, HG.out⟩
              · have j2 : ¬ (a : Int) < (s : Int) := by omega
                by_cases hR : D < F ∧ F < b
                · have j4 : (D : Int) < (F : Int) := by omega
                  have j5 : (F : Int) < (b : Int) := by omega
                  go_wp2_with fail
                  all_goals
                    refine (ih (A := A ++ (X1 ++ Y1)) (X := X2) (Y := Y2) (Z := Z) hr6' (by simp) (by rw [List.length_append, ((List.Perm.refl _)).length_eq, List.length_append]; have := HX1.out; have := HY1.out; have := HA.out; omega) (by rw [List.length_append, ((List.Perm.refl _)).length_eq, List.length_append]; have := HX1.out; have := HY1.out; have := HX2.out; have := HA.out; omega) (by rw [List.length_append, ((List.Perm.refl _)).length_eq, List.length_append]; have := HX1.out; have := HY1.out; have := HX2.out; have := HY2.out; have := HA.out; omega) (by have := HX2.out; omega) (by have := HY2.out; omega) (by have := HX2.out; have := HY2.out; have := HNN.out; have := HA.out; have := HM.out; have := HB.out; omega) hN (wdOk_perm HWD.out (by rw [HL.out, ← HXe.out, ← HYe.out]; exact perm_mid2 (List.Perm.refl _))) (srt_tail HXe.out HSX.out) (srt_tail HYe.out HSY.out)).mono ?_
                    rintro e w7 ⟨rfl, M2, hP2, hS2, hr7, hg7⟩
                    have hfin := halves (le := leT) (X1 := X1) (X2 := X2) (Y1 := Y1) (Y2 := Y2) (M1 := (X1 ++ Y1)) (M2 := M2) (by rw [HXe.out]; exact HSX.out) (by rw [HYe.out]; exact HSY.out) H12.out H21.out (List.Perm.refl _) hP2 HS1.out hS2
                    rw [HXe.out, HYe.out] at hfin
                    have HFIN := Lib.hid hfin
                    clear hfin
                    go_wp2_with fail
                    all_goals first | go_end0 | ((try simp only [Exit.inBlock, Exit.then]); refine bodyPost_ret (results_none rfl _ _ _) rfl ?_)
                    all_goals exact ⟨rfl, _, HFIN.out.2, HFIN.out.1, by simpa using hr7, (Off.tr hg6' hg7)⟩
                · have HS2 : Hid (Srt leT (X2 ++ Y2)) := Lib.hid (by
                    by_cases hF : F < b
                    · exact srt_nil_left (srt_tail HYe.out HSY.out) (len_nil (by have := HX2.out; omega))
                    · exact srt_nil_right (srt_tail HXe.out HSX.out) (len_nil (by have := HY2.out; omega)))
                  have HRow := Lib.hid hr6'
                  have HG := Lib.hid hg6'
                  by_cases hF : D < F
                  · have j4 : (D : Int) < (F : Int) := by omega
                    have j5 : ¬ (F : Int) < (b : Int) := by omega
                    have hfin := halves (le := leT) (X1 := X1) (X2 := X2) (Y1 := Y1) (Y2 := Y2) (M1 := (X1 ++ Y1)) (M2 := (X2 ++ Y2)) (by rw [HXe.out]; exact HSX.out) (by rw [HYe.out]; exact HSY.out) H12.out H21.out (List.Perm.refl _) (List.Perm.refl _) HS1.out HS2.out
                    rw [HXe.out, HYe.out] at hfin
                    have HFIN := Lib.hid hfin
                    clear hfin
                    go_wp2_with fail
                    all_goals first | go_end0 | ((try simp only [Exit.inBlock, Exit.then]); refine bodyPost_ret (results_none rfl _ _ _) rfl ?_)
                    all_goals exact ⟨rfl, _, HFIN.out.2, HFIN.out.1, by simpa using HRow.out, HG.out⟩
                  · have j4 : ¬ (D : Int) < (F : Int) := by omega
                    have hfin := halves (le := leT) (X1 := X1) (X2 := X2) (Y1 := Y1) (Y2 := Y2) (M1 := (X1 ++ Y1)) (M2 := (X2 ++ Y2)) (by rw [HXe.out]; exact HSX.out) (by rw [HYe.out]; exact HSY.out) H12.out H21.out (List.Perm.refl _) (List.Perm.refl _) HS1.out HS2.out
                    rw [HXe.out, HYe.out] at hfin
                    have HFIN := Lib.hid hfin
                    clear hfin
                    go_wp2_with fail
                    all_goals first | go_end0 | ((try simp only [Exit.inBlock, Exit.then]); refine bodyPost_ret (results_none rfl _ _ _) rfl ?_)
                    all_goals exact ⟨rfl, _, HFIN.out.2, HFIN.out.1, by simpa using HRow.out, HG.out⟩
          · have j0 : ¬ (s : Int) < (m : Int) := by omega
            by_cases hLf : a < s ∧ s < D
            · have j2 : (a : Int) < (s : Int) := by omega
              have j3 : (s : Int) < (D : Int) := by omega
              go_wp2_with fail
              refine (ih (A := A) (X := X1) (Y := Y1) (Z := X2 ++ (Y2 ++ Z)) hr5' rfl HA.out (by have := HX1.out; have := HA.out; omega) (by have := HX1.out; have := HY1.out; have := HA.out; omega) (by have := HX1.out; omega) (by have := HY1.out; omega) (by have := HX1.out; have := HY1.out; have := HNN.out; have := HA.out; have := HM.out; have := HB.out; omega) hN (wdOk_perm HWD.out (by rw [HL.out, ← HXe.out, ← HYe.out]; exact perm_mid1)) (srt_head HXe.out HSX.out) (srt_head HYe.out HSY.out)).mono ?_
              rintro e w6 ⟨rfl, M1, hP1, hS1, hr6, hg6⟩
              have hr6' : RowT blk N cap w6 ((A ++ M1) ++ (X2 ++ (Y2 ++ Z))) := by simpa using hr6
              have hg6' := Off.tr hg hg6
              clear hr6 hg6 j2 j3
              by_cases hR : D < F ∧ F < b
              · have j4 : (D : Int) < (F : Int) := by omega
                have j5 : (F : Int) < (b : Int) := by omega
                go_wp2_with fail
                all_goals
                  refine (ih (A := A ++ M1) (X := X2) (Y := Y2) (Z := Z) hr6' (by simp) (by rw [List.length_append, (hP1).length_eq, List.length_append]; have := HX1.out; have := HY1.out; have := HA.out; omega) (by rw [List.length_append, (hP1).length_eq, List.length_append]; have := HX1.out; have := HY1.out; have := HX2.out; have := HA.out; omega) (by rw [List.length_append, (hP1).length_eq, List.length_append]; have := HX1.out; have := HY1.out; have := HX2.out; have := HY2.out; have := HA.out; omega) (by have := HX2.out; omega) (by have := HY2.out; omega) (by have := HX2.out; have := HY2.out; have := HNN.out; have := HA.out; have := HM.out; have := HB.out; omega) hN (wdOk_perm HWD.out (by rw [HL.out, ← HXe.out, ← HYe.out]; exact perm_mid2 hP1)) (srt_tail HXe.out HSX.out) (srt_tail HYe.out HSY.out)).mono ?_
                  rintro e w7 ⟨rfl, M2, hP2, hS2, hr7, hg7⟩
                  have hfin := halves (le := leT) (X1 := X1) (X2 := X2) (Y1 := Y1) (Y2 := Y2) (M1 := M1) (M2 := M2) (by rw [HXe.out]; exact HSX.out) (by rw [HYe.out]; exact HSY.out) H12.out H21.out hP1 hP2 hS1 hS2
                  rw [HXe.out, HYe.out] at hfin
                  have HFIN := Lib.hid hfin
                  clear hfin
                  go_wp2_with fail
                  all_goals first | go_end0 | ((try simp only [Exit.inBlock, Exit.then]); refine bodyPost_ret (results_none rfl _ _ _) rfl ?_)
                  all_goals exact ⟨rfl, _, HFIN.out.2, HFIN.out.1, by simpa using hr7, (Off.tr hg6' hg7)⟩
              · have HS2 : Hid (Srt leT (X2 ++ Y2)) := Lib.hid (by
                  by_cases hF : F < b
                  · exact srt_nil_left (srt_tail HYe.out HSY.out) (len_nil (by have := HX2.out; omega))
                  · exact srt_nil_right (srt_tail HXe.out HSX.out) (len_nil (by have := HY2.out; omega)))
                have HRow := Lib.hid hr6'
                have HG := Lib.hid hg6'
                by_cases hF : D < F
                · have j4 : (D : Int) < (F : Int) := by omega
                  have j5 : ¬ (F : Int) < (b : Int) := by omega
                  have hfin := halves (le := leT) (X1 := X1) (X2 := X2) (Y1 := Y1) (Y2 := Y2) (M1 := M1) (M2 := (X2 ++ Y2)) (by rw [HXe.out]; exact HSX.out) (by rw [HYe.out]; exact HSY.out) H12.out H21.out hP1 (List.Perm.refl _) hS1 HS2.out
                  rw [HXe.out, HYe.out] at hfin
                  have HFIN := Lib.hid hfin
                  clear hfin
                  go_wp2_with fail
                  all_goals first | go_end0 | ((try simp only [Exit.inBlock, Exit.then]); refine bodyPost_ret (results_none rfl _ _ _) rfl ?_)
                  all_goals exact ⟨rfl, _, HFIN.out.2, HFIN.out.1, by simpa using HRow.out, HG.out⟩
                · have j4 : ¬ (D : Int) < (F : Int) := by omega
                  have hfin := halves (le := leT) (X1 := X1) (X2 := X2) (Y1 := Y1) (Y2 := Y2) (M1 := M1) (M2 := (X2 ++ Y2)) (by rw [HXe.out]; exact HSX.out) (by rw [HYe.out]; exact HSY.out) H12.out H21.out hP1 (List.Perm.refl _) hS1 HS2.out
                  rw [HXe.out, HYe.out] at hfin
                  have HFIN := Lib.hid hfin
                  clear hfin
                  go_wp2_with fail
                  all_goals first | go_end0 | ((try simp only [Exit.inBlock, Exit.then]); refine bodyPost_ret (results_none rfl _ _ _) rfl ?_)
                  all_goals exact ⟨rfl, _, HFIN.out.2, HFIN.out.1, by simpa using HRow.out, HG.out⟩
            · have HS1 : Hid (Srt leT (X1 ++ Y1)) := Lib.hid (by
                by_cases hF : a < s
                · exact srt_nil_right (srt_head HXe.out HSX.out) (len_nil (by have := HY1.out; omega))
                · exact srt_nil_left (srt_head HYe.out HSY.out) (len_nil (by have := HX1.out; omega)))
              have hr6' : RowT blk N cap wr ((A ++ (X1 ++ Y1)) ++ (X2 ++ (Y2 ++ Z))) := by simpa using hr5'
              have hg6' := hg
              by_cases hF1 : a < s
              · have j2 : (a : Int) < (s : Int) := by omega
                have j3 : ¬ (s : Int) < (D : Int) := by omega
                by_cases hR : D < F ∧ F < b
                · have j4 : (D : Int) < (F : Int) := by omega
                  have j5 : (F : Int) < (b : Int) := by omega
                  go_wp2_with fail
                  all_goals
                    refine (ih (A := A ++ (X1 ++ Y1)) (X := X2) (Y := Y2) (Z := Z) hr6' (by simp) (by rw [List.length_append, ((List.Perm.refl _)).length_eq, List.length_append]; have := HX1.out; have := HY1.out; have := HA.out; omega) (by rw [List.length_append, ((List.Perm.refl _)).length_eq, List.length_append]; have := HX1.out; have := HY1.out; have := HX2.out; have := HA.out; omega) (by rw [List.length_append, ((List.Perm.refl _)).length_eq, List.length_append]; have := HX1.out; have := HY1.out; have := HX2.out; have := HY2.out; have := HA.out; omega) (by have := HX2.out; omega) (by have := HY2.out; omega) (by have := HX2.out; have := HY2.out; have := HNN.out; have := HA.out; have := HM.out; have := HB.out; omega) hN (wdOk_perm HWD.out (by rw [HL.out, ← HXe.out, ← HYe.out]; exact perm_mid2 (List.Perm.refl _))) (srt_tail HXe.out HSX.out) (srt_tail HYe.out HSY.out)).mono ?_
                    rintro e w7 ⟨rfl, M2, hP2, hS2, hr7, hg7⟩
                    have hfin := halves (le := leT) (X1 := X1) (X2 := X2) (Y1 := Y1) (Y2 := Y2) (M1 := (X1 ++ Y1)) (M2 := M2) (by rw [HXe.out]; exact HSX.out) (by rw [HYe.out]; exact HSY.out) H12.out H21.out (List.Perm.refl _) hP2 HS1.out hS2
                    rw [HXe.out, HYe.out] at hfin
                    have HFIN := Lib.hid hfin
                    clear hfin
                    go_wp2_with fail
                    all_goals first | go_end0 | ((try simp only [Exit.inBlock, Exit.then]); refine bodyPost_ret (results_none rfl _ _ _) rfl ?_)
                    all_goals exact ⟨rfl, _, HFIN.out.2, HFIN.out.1, by simpa using hr7, (Off.tr hg6' hg7)⟩
                · have HS2 : Hid (Srt leT (X2 ++ Y2)) := Lib.hid (by
                    by_cases hF : F < b
                    · exact srt_nil_left (srt_tail HYe.out HSY.out) (len_nil (by have := HX2.out; omega))
                    · exact srt_nil_right (srt_tail HXe.out HSX.out) (len_nil (by have := HY2.out; omega)))
                  have HRow := Lib.hid hr6'
                  have HG := Lib.hid hg6'
                  by_cases hF : D < F
                  · have j4 : (D : Int) < (F : Int) := by omega
                    have j5 : ¬ (F : Int) < (b : Int) := by omega
                    have hfin := halves (le := leT) (X1 := X1) (X2 := X2) (Y1 := Y1) (Y2 := Y2) (M1 := (X1 ++ Y1)) (M2 := (X2 ++ Y2)) (by rw [HXe.out]; exact HSX.out) (by rw [HYe.out]; exact HSY.out) H12.out H21.out (List.Perm.refl _) (List.Perm.refl _) HS1.out HS2.out
                    rw [HXe.out, HYe.out] at hfin
                    have HFIN := Lib.hid hfin
                    clear hfin
                    go_wp2_with fail
                    all_goals first | go_end0 | ((try simp only [Exit.inBlock, Exit.then]); refine bodyPost_ret (results_none rfl _ _ _) rfl ?_)
                    all_goals exact ⟨rfl, _, HFIN.out.2, HFIN.out.1, by simpa using HRow.out, HG.out⟩
                  · have j4 : ¬ (D : Int) < (F : Int) := by omega
                    have hfin := halves (le := leT) (X1 := X1) (X2 := X2) (Y1 := Y1) (Y2 := Y2) (M1 := (X1 ++ Y1)) (M2 := (X2 ++ Y2)) (by rw [HXe.out]; exact HSX.out) (by rw [HYe.out]; exact HSY.out) H12.out H21.out (List.Perm.refl _) (List.Perm.refl _) HS1.out HS2.out
                    rw [HXe.out, HYe.out] at hfin
                    have HFIN := Lib.hid hfin
                    clear hfin
                    go_wp2_with fail
                    all_goals first | go_end0 | ((try simp only [Exit.inBlock, Exit.then]); refine bodyPost_ret (results_none rfl _ _ _) rfl ?_)
                    all_goals exact ⟨rfl, _, HFIN.out.2, HFIN.out.1, by simpa using HRow.out, HG.out⟩
              · have j2 : ¬ (a : Int) < (s : Int) := by omega
                by_cases hR : D < F ∧ F < b
                · have j4 : (D : Int) < (F : Int) := by omega
                  have j5 : (F : Int) < (b : Int) := by omega
                  go_wp2_with fail
                  all_goals
                    refine (ih (A := A ++ (X1 ++ Y1)) (X := X2) (Y := Y2) (Z := Z) hr6' (by simp) (by rw [List.length_append, ((List.Perm.refl _)).length_eq, List.length_append]; have := HX1.out; have := HY1.out; have := HA.out; omega) (by rw [List.length_append, ((List.Perm.refl _)).length_eq, List.length_append]; have := HX1.out; have := HY1.out; have := HX2.out; have := HA.out; omega) (by rw [List.length_append, ((List.Perm.refl _)).length_eq, List.length_append]; have := HX1.out; have := HY1.out; have := HX2.out; have := HY2.out; have := HA.out; omega) (by have := HX2.out; omega) (by have := HY2.out; omega) (by have := HX2.out; have := HY2.out; have := HNN.out; have := HA.out; have := HM.out; have := HB.out; omega) hN (wdOk_perm HWD.out (by rw [HL.out, ← HXe.out, ← HYe.out]; exact perm_mid2 (List.Perm.refl _))) (srt_tail HXe.out HSX.out) (srt_tail HYe.out HSY.out)).mono ?_
                    rintro e w7 ⟨rfl, M2, hP2, hS2, hr7, hg7⟩
                    have hfin := halves (le := leT) (X1 := X1) (X2 := X2) (Y1 := Y1) (Y2 := Y2) (M1 := (X1 ++ Y1)) (M2 := M2) (by rw [HXe.out]; exact HSX.out) (by rw [HYe.out]; exact HSY.out) H12.out H21.out (List.Perm.refl _) hP2 HS1.out hS2
                    rw [HXe.out, HYe.out] at hfin
                    have HFIN := Lib.hid hfin
                    clear hfin
                    go_wp2_with fail
                    all_goals first | go_end0 | ((try simp only [Exit.inBlock, Exit.then]); refine bodyPost_ret (results_none rfl _ _ _) rfl ?_)
                    all_goals exact ⟨rfl, _, HFIN.out.2, HFIN.out.1, by simpa using hr7, (Off.tr hg6' hg7)⟩
                · have HS2 : Hid (Srt leT (X2 ++ Y2)) := Lib.hid (by
                    by_cases hF : F < b
                    · exact srt_nil_left (srt_tail HYe.out HSY.out) (len_nil (by have := HX2.out; omega))
                    · exact srt_nil_right (srt_tail HXe.out HSX.out) (len_nil (by have := HY2.out; omega)))
                  have HRow := Lib.hid hr6'
                  have HG := Lib.hid hg6'
                  by_cases hF : D < F
                  · have j4 : (D : Int) < (F : Int) := by omega
                    have j5 : ¬ (F : Int) < (b : Int) := by omega
                    have hfin := halves (le := leT) (X1 := X1) (X2 := X2) (Y1 := Y1) (Y2 := Y2) (M1 := (X1 ++ Y1)) (M2 := (X2 ++ Y2)) (by rw [HXe.out]; exact HSX.out) (by rw [HYe.out]; exact HSY.out) H12.out H21.out (List.Perm.refl _) (List.Perm.refl _) HS1.out HS2.out
                    rw [HXe.out, HYe.out] at hfin
                    have HFIN := Lib.hid hfin
                    clear hfin
                    go_wp2_with fail
                    all_goals first | go_end0 | ((try simp only [Exit.inBlock, Exit.then]); refine bodyPost_ret (results_none rfl _ _ _) rfl ?_)
                    all_goals exact ⟨rfl, _, HFIN.out.2, HFIN.out.1, by simpa using HRow.out, HG.out⟩
                  · have j4 : ¬ (D : Int) < (F : Int) := by omega
                    have hfin := halves (le := leT) (X1 := X1) (X2 := X2) (Y1 := Y1) (Y2 := Y2) (M1 := (X1 ++ Y1)) (M2 := (X2 ++ Y2)) (by rw [HXe.out]; exact HSX.out) (by rw [HYe.out]; exact HSY.out) H12.out H21.out (List.Perm.refl _) (List.Perm.refl _) HS1.out HS2.out
                    rw [HXe.out, HYe.out] at hfin
                    have HFIN := Lib.hid hfin
                    clear hfin
                    go_wp2_with fail
                    all_goals first | go_end0 | ((try simp only [Exit.inBlock, Exit.then]); refine bodyPost_ret (results_none rfl _ _ _) rfl ?_)
                    all_goals exact ⟨rfl, _, HFIN.out.2, HFIN.out.1, by simpa using HRow.out, HG.out⟩
  · have k0 : ¬ (D : Int) < (m : Int) := by omega
    obtain ⟨lo, hlo⟩ : ∃ lo : Nat, lo = a := ⟨_, rfl⟩
    obtain ⟨hi, hhi⟩ : ∃ hi : Nat, hi = m := ⟨_, rfl⟩
    have HLO : Hid (lo = a ∨ E - lo = b) := Lib.hid (.inl hlo)
    have HHI : Hid (hi = m ∨ E - hi = m) := Lib.hid (.inl hhi)
    have b1 : a ≤ lo := by omega
    have b2 : hi ≤ m := by omega
    have b3 : E ≤ b + lo := by omega
    have b4 : m + hi ≤ E := by omega
    have b5 : lo ≤ hi := by omega
    have b6 : hi ≤ D := by omega
    have HLH := Lib.hid (show lo = a ∧ hi = m from ⟨by omega, hhi⟩)
    clear hlo hhi
    go_enter Tryz.func107, Tryz.ntmps107
    go_wp2_with fail
    go_loopw [20, 21] (fun sv rv wr => ∃ (s r : Nat), sv = .int .i64 (s : Int) ∧ rv = .int .i64 (r : Int) ∧ lo ≤ s ∧ s ≤ r ∧ r ≤ hi ∧ Hid (s = lo ∨ ∃ x y, X[s - 1 - a]? = some x ∧ Y[E - s - m]? = some y ∧ a + 1 ≤ s ∧ leT x y) ∧ Hid (r = hi ∨ ∃ x y, X[r - a]? = some x ∧ Y[E - 1 - r - m]? = some y ∧ m + r + 1 ≤ E ∧ leT y x) ∧ RowT blk N cap wr L ∧ w.grownBy wr (some blk)) (fun sv rv _ => (intOf rv).toNat - (intOf sv).toNat)
    case atStart => exact ⟨lo, hi, by first | rfl | (rw [HLH.out.1]), by first | rfl | (rw [HLH.out.2]), Nat.le_refl _, b5, Nat.le_refl _, Lib.hid (.inl rfl), Lib.hid (.inl rfl), h, World.grownBy.refl _ _⟩
    case round =>
      obtain ⟨s, r, rfl, rfl, hs1, hs2, hs3, HS0, HR0, hr, hg⟩ := hrel
      by_cases hlt : s < r
      · have i1 : (s : Int) < (r : Int) := by omega
        obtain ⟨C, hC⟩ : ∃ C : Nat, C = (s + r) / 2 := ⟨_, rfl⟩
        have hC1 : ((s : Int) + (r : Int)) / 2 = (C : Int) := by omega
        have hC2 : s ≤ C ∧ C < r := by omega
        obtain ⟨G, hG⟩ : ∃ G : Nat, G = Q - C := ⟨_, rfl⟩
        have hG1 : (Q : Int) - (C : Int) = (G : Int) := by omega
        have hG2 : m ≤ G ∧ G < b := by omega
        obtain ⟨x, hx⟩ : ∃ x, X[C - a]? = some x := ⟨_, List.getElem?_eq_getElem (by have := HA.out; have := HM.out; omega)⟩
        obtain ⟨y, hy⟩ : ∃ y, Y[G - m]? = some y := ⟨_, List.getElem?_eq_getElem (by have := HA.out; have := HM.out; have := HB.out; omega)⟩
        have hgx : L[C]? = some x := by
          have := get_mid A X (Y ++ Z) hx
          rw [show A.length + (C - a) = C by have := HA.out; omega] at this
          rw [HL.out]; exact this
        have hgy : L[G]? = some y := by
          have := get_mid (A ++ X) Y Z hy
          rw [List.length_append, show A.length + X.length + (G - m) = G by have := HM.out; omega] at this
          rw [HL.out]; simpa using this
        obtain ⟨ax, lx, qx, ax', lx', qx', ex, ex'⟩ := hr.forms hgx
        obtain ⟨cx, cx'⟩ := hr.cell hgx
        have rx := (hr.reads hgx).1
        have hwx : x.x.length ≤ 16777216 := hr.wds HWD.out hgx
        rw [ex] at cx rx
        rw [ex'] at cx'
        obtain ⟨ay, ly, qy, ay', ly', qy', ey, ey'⟩ := hr.forms hgy
        obtain ⟨cy, cy'⟩ := hr.cell hgy
        have ry := (hr.reads hgy).1
        have hwy : y.x.length ≤ 16777216 := hr.wds HWD.out hgy
        rw [ey] at cy ry
        rw [ey'] at cy'
        have g0 := fun z : GW wr => z.cell cx
        have g1 := fun z : GW wr => z.cell cx'
        have g2 := fun z : GW wr => z.cell cy
        have g3 := fun z : GW wr => z.cell cy'
        have jz : (C : Int) < (N : Int) := by omega
        have jz1 : (G : Int) < (N : Int) := by omega
        have HX := Lib.hid hx
        have HY := Lib.hid hy
        have HG := Lib.hid hG
        have HROW : Hid (∀ w8, Below wr.heap.size wr w8 → RowT blk N cap w8 L) := Lib.hid (fun w8 hb => hr.below hb)
        obtain ⟨hC3, hC4⟩ := hC2
        clear hgx hgy hx hy ex ex' ey ey' hC hG cx cx' cy cy' hG2
        by_cases hless : cmpW y.x x.x < 0
        · have hless2 := decide_eq_true hless
          go_wp2_with fail
          refine region_grow (by kernel_rfl) (by kernel_rfl) ?_
          repeat (go_big_quiet_step ((first | (rename_i z; go_at_call 56; exact Calls.grow z (cmpT (ry.below z.le) (rx.below z.le) hwy hwx ⟨_, _, _, rfl⟩ ⟨_, _, _, rfl⟩)))))
          refine wpQuiet_nil ?_
          intro w8 hb8
          have HR8 := Lib.hid (HROW.out w8 hb8)
          have HG8 := Lib.hid (Off.tr hg (Off.grown hb8))
          clear hb8 g0 g1 g2 g3
          go_wp2_with fail
          go_roundw
          case rel => exact ⟨s, C, rfl, rfl, hs1, by omega, by omega, HS0, Lib.hid (.inr ⟨x, y, HX.out, by rw [show E - 1 - C - m = G - m by have := HG.out; omega]; exact HY.out, by omega, leT_lt hless⟩), HR8.out, HG8.out⟩
          case measure => simp [intOf]; omega
        · have hless2 := decide_eq_false hless
          go_wp2_with fail
          refine region_grow (by kernel_rfl) (by kernel_rfl) ?_
          repeat (go_big_quiet_step ((first | (rename_i z; go_at_call 56; exact Calls.grow z (cmpT (ry.below z.le) (rx.below z.le) hwy hwx ⟨_, _, _, rfl⟩ ⟨_, _, _, rfl⟩)))))
          refine wpQuiet_nil ?_
          intro w8 hb8
          have HR8 := Lib.hid (HROW.out w8 hb8)
          have HG8 := Lib.hid (Off.tr hg (Off.grown hb8))
          clear hb8 g0 g1 g2 g3
          go_wp2_with fail
          go_roundw
          case rel => exact ⟨C + 1, r, by go_num, rfl, by omega, by omega, hs3, Lib.hid (.inr ⟨x, y, by rw [show C + 1 - 1 - a = C - a by omega]; exact HX.out, by rw [show E - (C + 1) - m = G - m by have := HG.out; omega]; exact HY.out, by omega, leT_not (by omega)⟩), HR0, HR8.out, HG8.out⟩
          case measure => simp [intOf]; omega
      · obtain rfl : s = r := by omega
        have i1 : ¬ (s : Int) < (s : Int) := by omega
        obtain ⟨F, hF⟩ : ∃ F : Nat, F = E - s := ⟨_, rfl⟩
        have hF1 : (E : Int) - (s : Int) = (F : Int) := by omega
        have hF2 : m ≤ F ∧ F ≤ b := by omega
        have hF3 : F + s ≤ D + m := by omega
        have hF4 : D + m ≤ F + s := by omega
        obtain ⟨hF5, hF6⟩ := hF2
        have HXe : Hid (X.take (s - a) ++ X.drop (s - a) = X) := Lib.hid (List.take_append_drop _ _)
        have HYe : Hid (Y.take (F - m) ++ Y.drop (F - m) = Y) := Lib.hid (List.take_append_drop _ _)
        have HX1 : Hid ((X.take (s - a)).length = s - a) := Lib.hid (by have := HA.out; have := HM.out; simp; omega)
        have HX2 : Hid ((X.drop (s - a)).length = m - s) := Lib.hid (by have := HA.out; have := HM.out; simp; omega)
        have HY1 : Hid ((Y.take (F - m)).length = F - m) := Lib.hid (by have := HA.out; have := HM.out; have := HB.out; simp; omega)
        have HY2 : Hid ((Y.drop (F - m)).length = b - F) := Lib.hid (by have := HA.out; have := HM.out; have := HB.out; simp; omega)
        have H12 : Hid (∀ p ∈ X.take (s - a), ∀ q ∈ Y.drop (F - m), leT p q) := Lib.hid (by
          rcases HS0.out with e | ⟨x, y, hx, hy, h1, hle⟩
          · rcases HLO.out with e2 | e2
            · rw [len_nil (X := X.take (s - a)) (by have := HX1.out; omega)]; intro p hp; cases hp
            · rw [len_nil (X := Y.drop (F - m)) (by have := HY2.out; omega)]; intro p hp q hq; cases hq
          · have := cross leT_trans HSX.out HSY.out hx hy hle
            rw [show s - 1 - a + 1 = s - a by omega, show E - s - m = F - m by omega] at this
            exact this)
        have H21 : Hid (∀ p ∈ Y.take (F - m), ∀ q ∈ X.drop (s - a), leT p q) := Lib.hid (by
          rcases HR0.out with e | ⟨x, y, hx, hy, h1, hle⟩
          · rcases HHI.out with e2 | e2
            · rw [len_nil (X := X.drop (s - a)) (by have := HX2.out; omega)]; intro p hp q hq; cases hq
            · rw [len_nil (X := Y.take (F - m)) (by have := HY1.out; omega)]; intro p hp; cases hp
          · have := cross leT_trans HSY.out HSX.out hy hx hle
            rw [show E - 1 - s - m + 1 = F - m by omega] at this
            exact this)
        generalize X.take (s - a) = X1 at *
        generalize X.drop (s - a) = X2 at *
        generalize Y.take (F - m) = Y1 at *
        generalize Y.drop (F - m) = Y2 at *
        clear HS0 HR0 HLO HHI hF
        by_cases hrot : s < m ∧ m < F
        · have j0 : (s : Int) < (m : Int) := by omega
          have j1 : (m : Int) < (F : Int) := by omega
          go_wp2_with fail
          refine (rotateT (A := A ++ X1) (X := X2) (Y := Y1) (Z := Y2 ++ Z) hr (by rw [HL.out, ← HXe.out, ← HYe.out]; simp) (by rw [List.length_append]; have := HX1.out; have := HA.out; omega) (by rw [List.length_append]; have := HX1.out; have := HX2.out; have := HA.out; omega) (by rw [List.length_append]; have := HX1.out; have := HX2.out; have := HY1.out; have := HA.out; omega) (by have := HX2.out; omega) (by have := HY1.out; omega) hN).mono ?_
          rintro e w5 ⟨rfl, hr5, hg5⟩
          have hr5' : RowT blk N cap w5 (A ++ (X1 ++ (Y1 ++ (X2 ++ (Y2 ++ Z))))) := by simpa using hr5
          have hg5' := Off.tr hg hg5
          clear hr5 hg5 j0 j1
          by_cases hLf : a < s ∧ s < D
          · have j2 : (a : Int) < (s : Int) := by omega
            have j3 : (s : Int) < (D : Int) := by omega
            go_wp2_with fail
            refine (ih (A := A) (X := X1) (Y := Y1) (Z := X2 ++ (Y2 ++ Z)) hr5' rfl HA.out (by have := HX1.out; have := HA.out; omega) (by have := HX1.out; have := HY1.out; have := HA.out; omega) (by have := HX1.out; omega) (by have := HY1.out; omega) (by have := HX1.out; have := HY1.out; have := HNN.out; have := HA.out; have := HM.out; have := HB.out; omega) hN (wdOk_perm HWD.out (by rw [HL.out, ← HXe.out, ← HYe.out]; exact perm_mid1)) (srt_head HXe.out HSX.out) (srt_head HYe.out HSY.out)).mono ?_
            rintro e w6 ⟨rfl, M1, hP1, hS1, hr6, hg6⟩
            have hr6' : RowT blk N cap w6 ((A ++ M1) ++ (X2 ++ (Y2 ++ Z))) := by simpa using hr6
            have hg6' := Off.tr hg5' hg6
            clear hr6 hg6 j2 j3
            by_cases hR : D < F ∧ F < b
            · have j4 : (D : Int) < (F : Int) := by omega
              have j5 : (F : Int) < (b : Int) := by omega
              go_wp2_with fail
              all_goals
                refine (ih (A := A ++ M1) (X := X2) (Y := Y2) (Z := Z) hr6' (by simp) (by rw [List.length_append, (hP1).length_eq, List.length_append]; have := HX1.out; have := HY1.out; have := HA.out; omega) (by rw [List.length_append, (hP1).length_eq, List.length_append]; have := HX1.out; have := HY1.out; have := HX2.out; have := HA.out; omega) (by rw [List.length_append, (hP1).length_eq, List.length_append]; have := HX1.out; have := HY1.out; have := HX2.out; have := HY2.out; have := HA.out; omega) (by have := HX2.out; omega) (by have := HY2.out; omega) (by have := HX2.out; have := HY2.out; have := HNN.out; have := HA.out; have := HM.out; have := HB.out; omega) hN (wdOk_perm HWD.out (by rw [HL.out, ← HXe.out, ← HYe.out]; exact perm_mid2 hP1)) (srt_tail HXe.out HSX.out) (srt_tail HYe.out HSY.out)).mono ?_
                rintro e w7 ⟨rfl, M2, hP2, hS2, hr7, hg7⟩
                have hfin := halves (le := leT) (X1 := X1) (X2 := X2) (Y1 := Y1) (Y2 := Y2) (M1 := M1) (M2 := M2) (by rw [HXe.out]; exact HSX.out) (by rw [HYe.out]; exact HSY.out) H12.out H21.out hP1 hP2 hS1 hS2
                rw [HXe.out, HYe.out] at hfin
                have HFIN := Lib.hid hfin
                clear hfin
                go_wp2_with fail
                all_goals first | go_end0 | ((try simp only [Exit.inBlock, Exit.then]); refine bodyPost_ret (results_none rfl _ _ _) rfl ?_)
                all_goals exact ⟨rfl, _, HFIN.out.2, HFIN.out.1, by simpa using hr7, (Off.tr hg6' hg7)⟩
            · have HS2 : Hid (Srt leT (X2 ++ Y2)) := Lib.hid (by
                by_cases hF : F < b
                · exact srt_nil_left (srt_tail HYe.out HSY.out) (len_nil (by have := HX2.out; omega))
                · exact srt_nil_right (srt_tail HXe.out HSX.out) (len_nil (by have := HY2.out; omega)))
              have HRow := Lib.hid hr6'
              have HG := Lib.hid hg6'
              by_cases hF : D < F
              · have j4 : (D : Int) < (F : Int) := by omega
                have j5 : ¬ (F : Int) < (b : Int) := by omega
                have hfin := halves (le := leT) (X1 := X1) (X2 := X2) (Y1 := Y1) (Y2 := Y2) (M1 := M1) (M2 := (X2 ++ Y2)) (by rw [HXe.out]; exact HSX.out) (by rw [HYe.out]; exact HSY.out) H12.out H21.out hP1 (List.Perm.refl _) hS1 HS2.out
                rw [HXe.out, HYe.out] at hfin
                have HFIN := Lib.hid hfin
                clear hfin
                go_wp2_with fail
                all_goals first | go_end0 | ((try simp only [Exit.inBlock, Exit.then]); refine bodyPost_ret (results_none rfl _ _ _) rfl ?_)
                all_goals exact ⟨rfl, _, HFIN.out.2, HFIN.out.1, by simpa using HRow.out, HG.out⟩
              · have j4 : ¬ (D : Int) < (F : Int) := by omega
                have hfin := halves (le := leT) (X1 := X1) (X2 := X2) (Y1 := Y1) (Y2 := Y2) (M1 := M1) (M2 := (X2 ++ Y2)) (by rw [HXe.out]; exact HSX.out) (by rw [HYe.out]; exact HSY.out) H12.out H21.out hP1 (List.Perm.refl _) hS1 HS2.out
                rw [HXe.out, HYe.out] at hfin
                have HFIN := Lib.hid hfin
                clear hfin
                go_wp2_with fail
                all_goals first | go_end0 | ((try simp only [Exit.inBlock, Exit.then]); refine bodyPost_ret (results_none rfl _ _ _) rfl ?_)
                all_goals exact ⟨rfl, _, HFIN.out.2, HFIN.out.1, by simpa using HRow.out, HG.out⟩
          · have HS1 : Hid (Srt leT (X1 ++ Y1)) := Lib.hid (by
              by_cases hF : a < s
              · exact srt_nil_right (srt_head HXe.out HSX.out) (len_nil (by have := HY1.out; omega))
              · exact srt_nil_left (srt_head HYe.out HSY.out) (len_nil (by have := HX1.out; omega)))
            have hr6' : RowT blk N cap w5 ((A ++ (X1 ++ Y1)) ++ (X2 ++ (Y2 ++ Z))) := by simpa using hr5'
            have hg6' := hg5'
            by_cases hF1 : a < s
            · have j2 : (a : Int) < (s : Int) := by omega
              have j3 : ¬ (s : Int) < (D : Int) := by omega
              by_cases hR : D < F ∧ F < b
              · have j4 : (D : Int) < (F : Int) := by omega
                have j5 : (F : Int) < (b : Int) := by omega
                go_wp2_with fail
                all_goals
                  refine (ih (A := A ++ (X1 ++ Y1)) (X := X2) (Y := Y2) (Z := Z) hr6' (by simp) (by rw [List.length_append, ((List.Perm.refl _)).length_eq, List.length_append]; have := HX1.out; have := HY1.out; have := HA.out; omega) (by rw [List.length_append, ((List.Perm.refl _)).length_eq, List.length_append]; have := HX1.out; have := HY1.out; have := HX2.out; have := HA.out; omega) (by rw [List.length_append, ((List.Perm.refl _)).length_eq, List.length_append]; have := HX1.out; have := HY1.out; have := HX2.out; have := HY2.out; have := HA.out; omega) (by have := HX2.out; omega) (by have := HY2.out; omega) (by have := HX2.out; have := HY2.out; have := HNN.out; have := HA.out; have := HM.out; have := HB.out; omega) hN (wdOk_perm HWD.out (by rw [HL.out, ← HXe.out, ← HYe.out]; exact perm_mid2 (List.Perm.refl _))) (srt_tail HXe.out HSX.out) (srt_tail HYe.out HSY.out)).mono ?_
                  rintro e w7 ⟨rfl, M2, hP2, hS2, hr7, hg7⟩
                  have hfin := halves (le := leT) (X1 := X1) (X2 := X2) (Y1 := Y1) (Y2 := Y2) (M1 := (X1 ++ Y1)) (M2 := M2) (by rw [HXe.out]; exact HSX.out) (by rw [HYe.out]; exact HSY.out) H12.out H21.out (List.Perm.refl _) hP2 HS1.out hS2
                  rw [HXe.out, HYe.out] at hfin
                  have HFIN := Lib.hid hfin
                  clear hfin
                  go_wp2_with fail
                  all_goals first | go_end0 | ((try simp only [Exit.inBlock, Exit.then]); refine bodyPost_ret (results_none rfl _ _ _) rfl ?_)
                  all_goals exact ⟨rfl, _, HFIN.out.2, HFIN.out.1, by simpa using hr7, (Off.tr hg6' hg7)⟩
              · have HS2 : Hid (Srt leT (X2 ++ Y2)) := Lib.hid (by
                  by_cases hF : F < b
                  · exact srt_nil_left (srt_tail HYe.out HSY.out) (len_nil (by have := HX2.out; omega))
                  · exact srt_nil_right (srt_tail HXe.out HSX.out) (len_nil (by have := HY2.out; omega)))
                have HRow := Lib.hid hr6'
                have HG := Lib.hid hg6'
                by_cases hF : D < F
                · have j4 : (D : Int) < (F : Int) := by omega
                  have j5 : ¬ (F : Int) < (b : Int) := by omega
                  have hfin := halves (le := leT) (X1 := X1) (X2 := X2) (Y1 := Y1) (Y2 := Y2) (M1 := (X1 ++ Y1)) (M2 := (X2 ++ Y2)) (by rw [HXe.out]; exact HSX.out) (by rw [HYe.out]; exact HSY.out) H12.out H21.out (List.Perm.refl _) (List.Perm.refl _) HS1.out HS2.out
                  rw [HXe.out, HYe.out] at hfin
                  have HFIN := Lib.hid hfin
                  clear hfin
                  go_wp2_with fail
                  all_goals first | go_end0 | ((try simp only [Exit.inBlock, Exit.then]); refine bodyPost_ret (results_none rfl _ _ _) rfl ?_)
                  all_goals exact ⟨rfl, _, HFIN.out.2, HFIN.out.1, by simpa using HRow.out, HG.out⟩
                · have j4 : ¬ (D : Int) < (F : Int) := by omega
                  have hfin := halves (le := leT) (X1 := X1) (X2 := X2) (Y1 := Y1) (Y2 := Y2) (M1 := (X1 ++ Y1)) (M2 := (X2 ++ Y2)) (by rw [HXe.out]; exact HSX.out) (by rw [HYe.out]; exact HSY.out) H12.out H21.out (List.Perm.refl _) (List.Perm.refl _) HS1.out HS2.out
                  rw [HXe.out, HYe.out] at hfin
                  have HFIN := Lib.hid hfin
                  clear hfin
                  go_wp2_with fail
                  all_goals first | go_end0 | ((try simp only [Exit.inBlock, Exit.then]); refine bodyPost_ret (results_none rfl _ _ _) rfl ?_)
                  all_goals exact ⟨rfl, _, HFIN.out.2, HFIN.out.1, by simpa using HRow.out, HG.out⟩
            · have j2 : ¬ (a : Int) < (s : Int) := by omega
              by_cases hR : D < F ∧ F < b
              · have j4 : (D : Int) < (F : Int) := by omega
                have j5 : (F : Int) < (b : Int) := by omega
                go_wp2_with fail
                all_goals
                  refine (ih (A := A ++ (X1 ++ Y1)) (X := X2) (Y := Y2) (Z := Z) hr6' (by simp) (by rw [List.length_append, ((List.Perm.refl _)).length_eq, List.length_append]; have := HX1.out; have := HY1.out; have := HA.out; omega) (by rw [List.length_append, ((List.Perm.refl _)).length_eq, List.length_append]; have := HX1.out; have := HY1.out; have := HX2.out; have := HA.out; omega) (by rw [List.length_append, ((List.Perm.refl _)).length_eq, List.length_append]; have := HX1.out; have := HY1.out; have := HX2.out; have := HY2.out; have := HA.out; omega) (by have := HX2.out; omega) (by have := HY2.out; omega) (by have := HX2.out; have := HY2.out; have := HNN.out; have := HA.out; have := HM.out; have := HB.out; omega) hN (wdOk_perm HWD.out (by rw [HL.out, ← HXe.out, ← HYe.out]; exact perm_mid2 (List.Perm.refl _))) (srt_tail HXe.out HSX.out) (srt_tail HYe.out HSY.out)).mono ?_
                  rintro e w7 ⟨rfl, M2, hP2, hS2, hr7, hg7⟩
                  have hfin := halves (le := leT) (X1 := X1) (X2 := X2) (Y1 := Y1) (Y2 := Y2) (M1 := (X1 ++ Y1)) (M2 := M2) (by rw [HXe.out]; exact HSX.out) (by rw [HYe.out]; exact HSY.out) H12.out H21.out (List.Perm.refl _) hP2 HS1.out hS2
                  rw [HXe.out, HYe.out] at hfin
                  have HFIN := Lib.hid hfin
                  clear hfin
                  go_wp2_with fail
                  all_goals first | go_end0 | ((try simp only [Exit.inBlock, Exit.then]); refine bodyPost_ret (results_none rfl _ _ _) rfl ?_)
                  all_goals exact ⟨rfl, _, HFIN.out.2, HFIN.out.1, by simpa using hr7, (Off.tr hg6' hg7)⟩
              · have HS2 : Hid (Srt leT (X2 ++ Y2)) := Lib.hid (by
                  by_cases hF : F < b
                  · exact srt_nil_left (srt_tail HYe.out HSY.out) (len_nil (by have := HX2.out; omega))
                  · exact srt_nil_right (srt_tail HXe.out HSX.out) (len_nil (by have := HY2.out; omega)))
                have HRow := Lib.hid hr6'
                have HG := Lib.hid hg6'
                by_cases hF : D < F
                · have j4 : (D : Int) < (F : Int) := by omega
                  have j5 : ¬ (F : Int) < (b : Int) := by omega
                  have hfin := halves (le := leT) (X1 := X1) (X2 := X2) (Y1 := Y1) (Y2 := Y2) (M1 := (X1 ++ Y1)) (M2 := (X2 ++ Y2)) (by rw [HXe.out]; exact HSX.out) (by rw [HYe.out]; exact HSY.out) H12.out H21.out (List.Perm.refl _) (List.Perm.refl _) HS1.out HS2.out
                  rw [HXe.out, HYe.out] at hfin
                  have HFIN := Lib.hid hfin
                  clear hfin
                  go_wp2_with fail
                  all_goals first | go_end0 | ((try simp only [Exit.inBlock, Exit.then]); refine bodyPost_ret (results_none rfl _ _ _) rfl ?_)
                  all_goals exact ⟨rfl, _, HFIN.out.2, HFIN.out.1, by simpa using HRow.out, HG.out⟩
                · have j4 : ¬ (D : Int) < (F : Int) := by omega
                  have hfin := halves (le := leT) (X1 := X1) (X2 := X2) (Y1 := Y1) (Y2 := Y2) (M1 := (X1 ++ Y1)) (M2 := (X2 ++ Y2)) (by rw [HXe.out]; exact HSX.out) (by rw [HYe.out]; exact HSY.out) H12.out H21.out (List.Perm.refl _) (List.Perm.refl _) HS1.out HS2.out
                  rw [HXe.out, HYe.out] at hfin
                  have HFIN := Lib.hid hfin
                  clear hfin
                  go_wp2_with fail
                  all_goals first | go_end0 | ((try simp only [Exit.inBlock, Exit.then]); refine bodyPost_ret (results_none rfl _ _ _) rfl ?_)
                  all_goals exact ⟨rfl, _, HFIN.out.2, HFIN.out.1, by simpa using HRow.out, HG.out⟩
        · have hr5' : RowT blk N cap wr (A ++ (X1 ++ (Y1 ++ (X2 ++ (Y2 ++ Z))))) := by
            rw [HL.out, ← HXe.out, ← HYe.out] at hr
            by_cases hF : s < m
            · have e := len_nil (X := Y1) (by have := HY1.out; omega)
              rw [e] at hr ⊢
              simpa using hr
            · have e := len_nil (X := X2) (by have := HX2.out; omega)
              rw [e] at hr ⊢
              simpa using hr
          by_cases hF0 : s < m
          · have j0 : (s : Int) < (m : Int) := by omega
            have j1 : ¬ (m : Int) < (F : Int) := by omega
            by_cases hLf : a < s ∧ s < D
            · have j2 : (a : Int) < (s : Int) := by omega
              have j3 : (s : Int) < (D : Int) := by omega
              go_wp2_with fail
              refine (ih (A := A) (X := X1) (Y := Y1) (Z := X2 ++ (Y2 ++ Z)) hr5' rfl HA.out (by have := HX1.out; have := HA.out; omega) (by have := HX1.out; have := HY1.out; have := HA.out; omega) (by have := HX1.out; omega) (by have := HY1.out; omega) (by have := HX1.out; have := HY1.out; have := HNN.out; have := HA.out; have := HM.out; have := HB.out; omega) hN (wdOk_perm HWD.out (by rw [HL.out, ← HXe.out, ← HYe.out]; exact perm_mid1)) (srt_head HXe.out HSX.out) (srt_head HYe.out HSY.out)).mono ?_
              rintro e w6 ⟨rfl, M1, hP1, hS1, hr6, hg6⟩
              have hr6' : RowT blk N cap w6 ((A ++ M1) ++ (X2 ++ (Y2 ++ Z))) := by simpa using hr6
              have hg6' := Off.tr hg hg6
              clear hr6 hg6 j2 j3
              by_cases hR : D < F ∧ F < b
              · have j4 : (D : Int) < (F : Int) := by omega
                have j5 : (F : Int) < (b : Int) := by omega
                go_wp2_with fail
                all_goals
                  refine (ih (A := A ++ M1) (X := X2) (Y := Y2) (Z := Z) hr6' (by simp) (by rw [List.length_append, (hP1).length_eq, List.length_append]; have := HX1.out; have := HY1.out; have := HA.out; omega) (by rw [List.length_append, (hP1).length_eq, List.length_append]; have := HX1.out; have := HY1.out; have := HX2.out; have := HA.out; omega) (by rw [List.length_append, (hP1).length_eq, List.length_append]; have := HX1.out; have := HY1.out; have := HX2.out; have := HY2.out; have := HA.out; omega) (by have := HX2.out; omega) (by have := HY2.out; omega) (by have := HX2.out; have := HY2.out; have := HNN.out; have := HA.out; have := HM.out; have := HB.out; omega) hN (wdOk_perm HWD.out (by rw [HL.out, ← HXe.out, ← HYe.out]; exact perm_mid2 hP1)) (srt_tail HXe.out HSX.out) (srt_tail HYe.out HSY.out)).mono ?_
                  rintro e w7 ⟨rfl, M2, hP2, hS2, hr7, hg7⟩
                  have hfin := halves (le := leT) (X1 := X1) (X2 := X2) (Y1 := Y1) (Y2 := Y2) (M1 := M1) (M2 := M2) (by rw [HXe.out]; exact HSX.out) (by rw [HYe.out]; exact HSY.out) H12.out H21.out hP1 hP2 hS1 hS2
                  rw [HXe.out, HYe.out] at hfin
                  have HFIN := Lib.hid hfin
                  clear hfin
                  go_wp2_with fail
                  all_goals first | go_end0 | ((try simp only [Exit.inBlock, Exit.then]); refine bodyPost_ret (results_none rfl _ _ _) rfl ?_)
                  all_goals exact ⟨rfl, _, HFIN.out.2, HFIN.out.1, by simpa using hr7, (Off.tr hg6' hg7)⟩
              · have HS2 : Hid (Srt leT (X2 ++ Y2)) := Lib.hid (by
                  by_cases hF : F < b
                  · exact srt_nil_left (srt_tail HYe.out HSY.out) (len_nil (by have := HX2.out; omega))
                  · exact srt_nil_right (srt_tail HXe.out HSX.out) (len_nil (by have := HY2.out; omega)))
                have HRow := Lib.hid hr6'
                have HG := Lib.hid hg6'
                by_cases hF : D < F
                · have j4 : (D : Int) < (F : Int) := by omega
                  have j5 : ¬ (F : Int) < (b : Int) := by omega
                  have hfin := halves (le := leT) (X1 := X1) (X2 := X2) (Y1 := Y1) (Y2 := Y2) (M1 := M1) (M2 := (X2 ++ Y2)) (by rw [HXe.out]; exact HSX.out) (by rw [HYe.out]; exact HSY.out) H12.out H21.out hP1 (List.Perm.refl _) hS1 HS2.out
                  rw [HXe.out, HYe.out] at hfin
                  have HFIN := Lib.hid hfin
                  clear hfin
                  go_wp2_with fail
                  all_goals first | go_end0 | ((try simp only [Exit.inBlock, Exit.then]); refine bodyPost_ret (results_none rfl _ _ _) rfl ?_)
                  all_goals exact ⟨rfl, _, HFIN.out.2, HFIN.out.1, by simpa using HRow.out, HG.out⟩
                · have j4 : ¬ (D : Int) < (F : Int) := by omega
                  have hfin := halves (le := leT) (X1 := X1) (X2 := X2) (Y1 := Y1) (Y2 := Y2) (M1 := M1) (M2 := (X2 ++ Y2)) (by rw [HXe.out]; exact HSX.out) (by rw [HYe.out]; exact HSY.out) H12.out H21.out hP1 (List.Perm.refl _) hS1 HS2.out
                  rw [HXe.out, HYe.out] at hfin
                  have HFIN := Lib.hid hfin
                  clear hfin
                  go_wp2_with fail
                  all_goals first | go_end0 | ((try simp only [Exit.inBlock, Exit.then]); refine bodyPost_ret (results_none rfl _ _ _) rfl ?_)
                  all_goals exact ⟨rfl, _, HFIN.out.2, HFIN.out.1, by simpa using HRow.out, HG.out⟩
            · have HS1 : Hid (Srt leT (X1 ++ Y1)) := Lib.hid (by
                by_cases hF : a < s
                · exact srt_nil_right (srt_head HXe.out HSX.out) (len_nil (by have := HY1.out; omega))
                · exact srt_nil_left (srt_head HYe.out HSY.out) (len_nil (by have := HX1.out; omega)))
              have hr6' : RowT blk N cap wr ((A ++ (X1 ++ Y1)) ++ (X2 ++ (Y2 ++ Z))) := by simpa using hr5'
              have hg6' := hg
              by_cases hF1 : a < s
              · have j2 : (a : Int) < (s : Int) := by omega
                have j3 : ¬ (s : Int) < (D : Int) := by omega
                by_cases hR : D < F ∧ F < b
                · have j4 : (D : Int) < (F : Int) := by omega
                  have j5 : (F : Int) < (b : Int) := by omega
                  go_wp2_with fail
                  all_goals
                    refine (ih (A := A ++ (X1 ++ Y1)) (X := X2) (Y := Y2) (Z := Z) hr6' (by simp) (by rw [List.length_append, ((List.Perm.refl _)).length_eq, List.length_append]; have := HX1.out; have := HY1.out; have := HA.out; omega) (by rw [List.length_append, ((List.Perm.refl _)).length_eq, List.length_append]; have := HX1.out; have := HY1.out; have := HX2.out; have := HA.out; omega) (by rw [List.length_append, ((List.Perm.refl _)).length_eq, List.length_append]; have := HX1.out; have := HY1.out; have := HX2.out; have := HY2.out; have := HA.out; omega) (by have := HX2.out; omega) (by have := HY2.out; omega) (by have := HX2.out; have := HY2.out; have := HNN.out; have := HA.out; have := HM.out; have := HB.out; omega) hN (wdOk_perm HWD.out (by rw [HL.out, ← HXe.out, ← HYe.out]; exact perm_mid2 (List.Perm.refl _))) (srt_tail HXe.out HSX.out) (srt_tail HYe.out HSY.out)).mono ?_
                    rintro e w7 ⟨rfl, M2, hP2, hS2, hr7, hg7⟩
                    have hfin := halves (le := leT) (X1 := X1) (X2 := X2) (Y1 := Y1) (Y2 := Y2) (M1 := (X1 ++ Y1)) (M2 := M2) (by rw [HXe.out]; exact HSX.out) (by rw [HYe.out]; exact HSY.out) H12.out H21.out (List.Perm.refl _) hP2 HS1.out hS2
                    rw [HXe.out, HYe.out] at hfin
                    have HFIN := Lib.hid hfin
                    clear hfin
                    go_wp2_with fail
                    all_goals first | go_end0 | ((try simp only [Exit.inBlock, Exit.then]); refine bodyPost_ret (results_none rfl _ _ _) rfl ?_)
                    all_goals exact ⟨rfl, _, HFIN.out.2, HFIN.out.1, by simpa using hr7, (Off.tr hg6' hg7)⟩
                · have HS2 : Hid (Srt leT (X2 ++ Y2)) := Lib.hid (by
                    by_cases hF : F < b
                    · exact srt_nil_left (srt_tail HYe.out HSY.out) (len_nil (by have := HX2.out; omega))
                    · exact srt_nil_right (srt_tail HXe.out HSX.out) (len_nil (by have := HY2.out; omega)))
                  have HRow := Lib.hid hr6'
                  have HG := Lib.hid hg6'
                  by_cases hF : D < F
                  · have j4 : (D : Int) < (F : Int) := by omega
                    have j5 : ¬ (F : Int) < (b : Int) := by omega
                    have hfin := halves (le := leT) (X1 := X1) (X2 := X2) (Y1 := Y1) (Y2 := Y2) (M1 := (X1 ++ Y1)) (M2 := (X2 ++ Y2)) (by rw [HXe.out]; exact HSX.out) (by rw [HYe.out]; exact HSY.out) H12.out H21.out (List.Perm.refl _) (List.Perm.refl _) HS1.out HS2.out
                    rw [HXe.out, HYe.out] at hfin
                    have HFIN := Lib.hid hfin
                    clear hfin
                    go_wp2_with fail
                    all_goals first | go_end0 | ((try simp only [Exit.inBlock, Exit.then]); refine bodyPost_ret (results_none rfl _ _ _) rfl ?_)
                    all_goals exact ⟨rfl, _, HFIN.out.2, HFIN.out.1, by simpa using HRow.out, HG.out⟩
                  · have j4 : ¬ (D : Int) < (F : Int) := by omega
                    have hfin := halves (le := leT) (X1 := X1) (X2 := X2) (Y1 := Y1) (Y2 := Y2) (M1 := (X1 ++ Y1)) (M2 := (X2 ++ Y2)) (by rw [HXe.out]; exact HSX.out) (by rw [HYe.out]; exact HSY.out) H12.out H21.out (List.Perm.refl _) (List.Perm.refl _) HS1.out HS2.out
                    rw [HXe.out, HYe.out] at hfin
                    have HFIN := Lib.hid hfin
                    clear hfin
                    go_wp2_with fail
                    all_goals first | go_end0 | ((try simp only [Exit.inBlock, Exit.then]); refine bodyPost_ret (results_none rfl _ _ _) rfl ?_)
                    all_goals exact ⟨rfl, _, HFIN.out.2, HFIN.out.1, by simpa using HRow.out, HG.out⟩
              · have j2 : ¬ (a : Int) < (s : Int) := by omega
                by_cases hR : D < F ∧ F < b
                · have j4 : (D : Int) < (F : Int) := by omega
                  have j5 : (F : Int) < (b : Int) := by omega
                  go_wp2_with fail
                  all_goals
                    refine (ih (A := A ++ (X1 ++ Y1)) (X := X2) (Y := Y2) (Z := Z) hr6' (by simp) (by rw [List.length_append, ((List.Perm.refl _)).length_eq, List.length_append]; have := HX1.out; have := HY1.out; have := HA.out; omega) (by rw [List.length_append, ((List.Perm.refl _)).length_eq, List.length_append]; have := HX1.out; have := HY1.out; have := HX2.out; have := HA.out; omega) (by rw [List.length_append, ((List.Perm.refl _)).length_eq, List.length_append]; have := HX1.out; have := HY1.out; have := HX2.out; have := HY2.out; have := HA.out; omega) (by have := HX2.out; omega) (by have := HY2.out; omega) (by have := HX2.out; have := HY2.out; have := HNN.out; have := HA.out; have := HM.out; have := HB.out; omega) hN (wdOk_perm HWD.out (by rw [HL.out, ← HXe.out, ← HYe.out]; exact perm_mid2 (List.Perm.refl _))) (srt_tail HXe.out HSX.out) (srt_tail HYe.out HSY.out)).mono ?_
                    rintro e w7 ⟨rfl, M2, hP2, hS2, hr7, hg7⟩
                    have hfin := halves (le := leT) (X1 := X1) (X2 := X2) (Y1 := Y1) (Y2 := Y2) (M1 := (X1 ++ Y1)) (M2 := M2) (by rw [HXe.out]; exact HSX.out) (by rw [HYe.out]; exact HSY.out) H12.out H21.out (List.Perm.refl _) hP2 HS1.out hS2
                    rw [HXe.out, HYe.out] at hfin
                    have HFIN := Lib.hid hfin
                    clear hfin
                    go_wp2_with fail
                    all_goals first | go_end0 | ((try simp only [Exit.inBlock, Exit.then]); refine bodyPost_ret (results_none rfl _ _ _) rfl ?_)
                    all_goals exact ⟨rfl, _, HFIN.out.2, HFIN.out.1, by simpa using hr7, (Off.tr hg6' hg7)⟩
                · have HS2 : Hid (Srt leT (X2 ++ Y2)) := Lib.hid (by
                    by_cases hF : F < b
                    · exact srt_nil_left (srt_tail HYe.out HSY.out) (len_nil (by have := HX2.out; omega))
                    · exact srt_nil_right (srt_tail HXe.out HSX.out) (len_nil (by have := HY2.out; omega)))
                  have HRow := Lib.hid hr6'
                  have HG := Lib.hid hg6'
                  by_cases hF : D < F
                  · have j4 : (D : Int) < (F : Int) := by omega
                    have j5 : ¬ (F : Int) < (b : Int) := by omega
                    have hfin := halves (le := leT) (X1 := X1) (X2 := X2) (Y1 := Y1) (Y2 := Y2) (M1 := (X1 ++ Y1)) (M2 := (X2 ++ Y2)) (by rw [HXe.out]; exact HSX.out) (by rw [HYe.out]; exact HSY.out) H12.out H21.out (List.Perm.refl _) (List.Perm.refl _) HS1.out HS2.out
                    rw [HXe.out, HYe.out] at hfin
                    have HFIN := Lib.hid hfin
                    clear hfin
                    go_wp2_with fail
                    all_goals first | go_end0 | ((try simp only [Exit.inBlock, Exit.then]); refine bodyPost_ret (results_none rfl _ _ _) rfl ?_)
                    all_goals exact ⟨rfl, _, HFIN.out.2, HFIN.out.1, by simpa using HRow.out, HG.out⟩
                  · have j4 : ¬ (D : Int) < (F : Int) := by omega
                    have hfin := halves (le := leT) (X1 := X1) (X2 := X2) (Y1 := Y1) (Y2 := Y2) (M1 := (X1 ++ Y1)) (M2 := (X2 ++ Y2)) (by rw [HXe.out]; exact HSX.out) (by rw [HYe.out]; exact HSY.out) H12.out H21.out (List.Perm.refl _) (List.Perm.refl _) HS1.out HS2.out
                    rw [HXe.out, HYe.out] at hfin
                    have HFIN := Lib.hid hfin
                    clear hfin
                    go_wp2_with fail
                    all_goals first | go_end0 | ((try simp only [Exit.inBlock, Exit.then]); refine bodyPost_ret (results_none rfl _ _ _) rfl ?_)
                    all_goals exact ⟨rfl, _, HFIN.out.2, HFIN.out.1, by simpa using HRow.out, HG.out⟩
          · have j0 : ¬ (s : Int) < (m : Int) := by omega
            by_cases hLf : a < s ∧ s < D
            · have j2 : (a : Int) < (s : Int) := by omega
              have j3 : (s : Int) < (D : Int) := by omega
              go_wp2_with fail
              refine (ih (A := A) (X := X1) (Y := Y1) (Z := X2 ++ (Y2 ++ Z)) hr5' rfl HA.out (by have := HX1.out; have := HA.out; omega) (by have := HX1.out; have := HY1.out; have := HA.out; omega) (by have := HX1.out; omega) (by have := HY1.out; omega) (by have := HX1.out; have := HY1.out; have := HNN.out; have := HA.out; have := HM.out; have := HB.out; omega) hN (wdOk_perm HWD.out (by rw [HL.out, ← HXe.out, ← HYe.out]; exact perm_mid1)) (srt_head HXe.out HSX.out) (srt_head HYe.out HSY.out)).mono ?_
              rintro e w6 ⟨rfl, M1, hP1, hS1, hr6, hg6⟩
              have hr6' : RowT blk N cap w6 ((A ++ M1) ++ (X2 ++ (Y2 ++ Z))) := by simpa using hr6
              have hg6' := Off.tr hg hg6
              clear hr6 hg6 j2 j3
              by_cases hR : D < F ∧ F < b
              · have j4 : (D : Int) < (F : Int) := by omega
                have j5 : (F : Int) < (b : Int) := by omega
                go_wp2_with fail
                all_goals
                  refine (ih (A := A ++ M1) (X := X2) (Y := Y2) (Z := Z) hr6' (by simp) (by rw [List.length_append, (hP1).length_eq, List.length_append]; have := HX1.out; have := HY1.out; have := HA.out; omega) (by rw [List.length_append, (hP1).length_eq, List.length_append]; have := HX1.out; have := HY1.out; have := HX2.out; have := HA.out; omega) (by rw [List.length_append, (hP1).length_eq, List.length_append]; have := HX1.out; have := HY1.out; have := HX2.out; have := HY2.out; have := HA.out; omega) (by have := HX2.out; omega) (by have := HY2.out; omega) (by have := HX2.out; have := HY2.out; have := HNN.out; have := HA.out; have := HM.out; have := HB.out; omega) hN (wdOk_perm HWD.out (by rw [HL.out, ← HXe.out, ← HYe.out]; exact perm_mid2 hP1)) (srt_tail HXe.out HSX.out) (srt_tail HYe.out HSY.out)).mono ?_
                  rintro e w7 ⟨rfl, M2, hP2, hS2, hr7, hg7⟩
                  have hfin := halves (le := leT) (X1 := X1) (X2 := X2) (Y1 := Y1) (Y2 := Y2) (M1 := M1) (M2 := M2) (by rw [HXe.out]; exact HSX.out) (by rw [HYe.out]; exact HSY.out) H12.out H21.out hP1 hP2 hS1 hS2
                  rw [HXe.out, HYe.out] at hfin
                  have HFIN := Lib.hid hfin
                  clear hfin
                  go_wp2_with fail
                  all_goals first | go_end0 | ((try simp only [Exit.inBlock, Exit.then]); refine bodyPost_ret (results_none rfl _ _ _) rfl ?_)
                  all_goals exact ⟨rfl, _, HFIN.out.2, HFIN.out.1, by simpa using hr7, (Off.tr hg6' hg7)⟩
              · have HS2 : Hid (Srt leT (X2 ++ Y2)) := Lib.hid (by
                  by_cases hF : F < b
                  · exact srt_nil_left (srt_tail HYe.out HSY.out) (len_nil (by have := HX2.out; omega))
                  · exact srt_nil_right (srt_tail HXe.out HSX.out) (len_nil (by have := HY2.out; omega)))
                have HRow := Lib.hid hr6'
                have HG := Lib.hid hg6'
                by_cases hF : D < F
                · have j4 : (D : Int) < (F : Int) := by omega
                  have j5 : ¬ (F : Int) < (b : Int) := by omega
                  have hfin := halves (le := leT) (X1 := X1) (X2 := X2) (Y1 := Y1) (Y2 := Y2) (M1 := M1) (M2 := (X2 ++ Y2)) (by rw [HXe.out]; exact HSX.out) (by rw [HYe.out]; exact HSY.out) H12.out H21.out hP1 (List.Perm.refl _) hS1 HS2.out
                  rw [HXe.out, HYe.out] at hfin
                  have HFIN := Lib.hid hfin
                  clear hfin
                  go_wp2_with fail
                  all_goals first | go_end0 | ((try simp only [Exit.inBlock, Exit.then]); refine bodyPost_ret (results_none rfl _ _ _) rfl ?_)
                  all_goals exact ⟨rfl, _, HFIN.out.2, HFIN.out.1, by simpa using HRow.out, HG.out⟩
                · have j4 : ¬ (D : Int) < (F : Int) := by omega
                  have hfin := halves (le := leT) (X1 := X1) (X2 := X2) (Y1 := Y1) (Y2 := Y2) (M1 := M1) (M2 := (X2 ++ Y2)) (by rw [HXe.out]; exact HSX.out) (by rw [HYe.out]; exact HSY.out) H12.out H21.out hP1 (List.Perm.refl _) hS1 HS2.out
                  rw [HXe.out, HYe.out] at hfin
                  have HFIN := Lib.hid hfin
                  clear hfin
                  go_wp2_with fail
                  all_goals first | go_end0 | ((try simp only [Exit.inBlock, Exit.then]); refine bodyPost_ret (results_none rfl _ _ _) rfl ?_)
                  all_goals exact ⟨rfl, _, HFIN.out.2, HFIN.out.1, by simpa using HRow.out, HG.out⟩
            · have HS1 : Hid (Srt leT (X1 ++ Y1)) := Lib.hid (by
                by_cases hF : a < s
                · exact srt_nil_right (srt_head HXe.out HSX.out) (len_nil (by have := HY1.out; omega))
                · exact srt_nil_left (srt_head HYe.out HSY.out) (len_nil (by have := HX1.out; omega)))
              have hr6' : RowT blk N cap wr ((A ++ (X1 ++ Y1)) ++ (X2 ++ (Y2 ++ Z))) := by simpa using hr5'
              have hg6' := hg
              by_cases hF1 : a < s
              · have j2 : (a : Int) < (s : Int) := by omega
                have j3 : ¬ (s : Int) < (D : Int) := by omega
                by_cases hR : D < F ∧ F < b
                · have j4 : (D : Int) < (F : Int) := by omega
                  have j5 : (F : Int) < (b : Int) := by omega
                  go_wp2_with fail
                  all_goals
                    refine (ih (A := A ++ (X1 ++ Y1)) (X := X2) (Y := Y2) (Z := Z) hr6' (by simp) (by rw [List.length_append, ((List.Perm.refl _)).length_eq, List.length_append]; have := HX1.out; have := HY1.out; have := HA.out; omega) (by rw [List.length_append, ((List.Perm.refl _)).length_eq, List.length_append]; have := HX1.out; have := HY1.out; have := HX2.out; have := HA.out; omega) (by rw [List.length_append, ((List.Perm.refl _)).length_eq, List.length_append]; have := HX1.out; have := HY1.out; have := HX2.out; have := HY2.out; have := HA.out; omega) (by have := HX2.out; omega) (by have := HY2.out; omega) (by have := HX2.out; have := HY2.out; have := HNN.out; have := HA.out; have := HM.out; have := HB.out; omega) hN (wdOk_perm HWD.out (by rw [HL.out, ← HXe.out, ← HYe.out]; exact perm_mid2 (List.Perm.refl _))) (srt_tail HXe.out HSX.out) (srt_tail HYe.out HSY.out)).mono ?_
                    rintro e w7 ⟨rfl, M2, hP2, hS2, hr7, hg7⟩
                    have hfin := halves (le := leT) (X1 := X1) (X2 := X2) (Y1 := Y1) (Y2 := Y2) (M1 := (X1 ++ Y1)) (M2 := M2) (by rw [HXe.out]; exact HSX.out) (by rw [HYe.out]; exact HSY.out) H12.out H21.out (List.Perm.refl _) hP2 HS1.out hS2
                    rw [HXe.out, HYe.out] at hfin
                    have HFIN := Lib.hid hfin
                    clear hfin
                    go_wp2_with fail
                    all_goals first | go_end0 | ((try simp only [Exit.inBlock, Exit.then]); refine bodyPost_ret (results_none rfl _ _ _) rfl ?_)
                    all_goals exact ⟨rfl, _, HFIN.out.2, HFIN.out.1, by simpa using hr7, (Off.tr hg6' hg7)⟩
                · have HS2 : Hid (Srt leT (X2 ++ Y2)) := Lib.hid (by
                    by_cases hF : F < b
                    · exact srt_nil_left (srt_tail HYe.out HSY.out) (len_nil (by have := HX2.out; omega))
                    · exact srt_nil_right (srt_tail HXe.out HSX.out) (len_nil (by have := HY2.out; omega)))
                  have HRow := Lib.hid hr6'
                  have HG := Lib.hid hg6'
                  by_cases hF : D < F
                  · have j4 : (D : Int) < (F : Int) := by omega
                    have j5 : ¬ (F : Int) < (b : Int) := by omega
                    have hfin := halves (le := leT) (X1 := X1) (X2 := X2) (Y1 := Y1) (Y2 := Y2) (M1 := (X1 ++ Y1)) (M2 := (X2 ++ Y2)) (by rw [HXe.out]; exact HSX.out) (by rw [HYe.out]; exact HSY.out) H12.out H21.out (List.Perm.refl _) (List.Perm.refl _) HS1.out HS2.out
                    rw [HXe.out, HYe.out] at hfin
                    have HFIN := Lib.hid hfin
                    clear hfin
                    go_wp2_with fail
                    all_goals first | go_end0 | ((try simp only [Exit.inBlock, Exit.then]); refine bodyPost_ret (results_none rfl _ _ _) rfl ?_)
                    all_goals exact ⟨rfl, _, HFIN.out.2, HFIN.out.1, by simpa using HRow.out, HG.out⟩
                  · have j4 : ¬ (D : Int) < (F : Int) := by omega
                    have hfin := halves (le := leT) (X1 := X1) (X2 := X2) (Y1 := Y1) (Y2 := Y2) (M1 := (X1 ++ Y1)) (M2 := (X2 ++ Y2)) (by rw [HXe.out]; exact HSX.out) (by rw [HYe.out]; exact HSY.out) H12.out H21.out (List.Perm.refl _) (List.Perm.refl _) HS1.out HS2.out
                    rw [HXe.out, HYe.out] at hfin
                    have HFIN := Lib.hid hfin
                    clear hfin
                    go_wp2_with fail
                    all_goals first | go_end0 | ((try simp only [Exit.inBlock, Exit.then]); refine bodyPost_ret (results_none rfl _ _ _) rfl ?_)
                    all_goals exact ⟨rfl, _, HFIN.out.2, HFIN.out.1, by simpa using HRow.out, HG.out⟩
              · have j2 : ¬ (a : Int) < (s : Int) := by omega
                by_cases hR : D < F ∧ F < b
                · have j4 : (D : Int) < (F : Int) := by omega
                  have j5 : (F : Int) < (b : Int) := by omega
                  go_wp2_with fail
                  all_goals
                    refine (ih (A := A ++ (X1 ++ Y1)) (X := X2) (Y := Y2) (Z := Z) hr6' (by simp) (by rw [List.length_append, ((List.Perm.refl _)).length_eq, List.length_append]; have := HX1.out; have := HY1.out; have := HA.out; omega) (by rw [List.length_append, ((List.Perm.refl _)).length_eq, List.length_append]; have := HX1.out; have := HY1.out; have := HX2.out; have := HA.out; omega) (by rw [List.length_append, ((List.Perm.refl _)).length_eq, List.length_append]; have := HX1.out; have := HY1.out; have := HX2.out; have := HY2.out; have := HA.out; omega) (by have := HX2.out; omega) (by have := HY2.out; omega) (by have := HX2.out; have := HY2.out; have := HNN.out; have := HA.out; have := HM.out; have := HB.out; omega) hN (wdOk_perm HWD.out (by rw [HL.out, ← HXe.out, ← HYe.out]; exact perm_mid2 (List.Perm.refl _))) (srt_tail HXe.out HSX.out) (srt_tail HYe.out HSY.out)).mono ?_
                    rintro e w7 ⟨rfl, M2, hP2, hS2, hr7, hg7⟩
                    have hfin := halves (le := leT) (X1 := X1) (X2 := X2) (Y1 := Y1) (Y2 := Y2) (M1 := (X1 ++ Y1)) (M2 := M2) (by rw [HXe.out]; exact HSX.out) (by rw [HYe.out]; exact HSY.out) H12.out H21.out (List.Perm.refl _) hP2 HS1.out hS2
                    rw [HXe.out, HYe.out] at hfin
                    have HFIN := Lib.hid hfin
                    clear hfin
                    go_wp2_with fail
                    all_goals first | go_end0 | ((try simp only [Exit.inBlock, Exit.then]); refine bodyPost_ret (results_none rfl _ _ _) rfl ?_)
                    all_goals exact ⟨rfl, _, HFIN.out.2, HFIN.out.1, by simpa using hr7, (Off.tr hg6' hg7)⟩
                · have HS2 : Hid (Srt leT (X2 ++ Y2)) := Lib.hid (by
                    by_cases hF : F < b
                    · exact srt_nil_left (srt_tail HYe.out HSY.out) (len_nil (by have := HX2.out; omega))
                    · exact srt_nil_right (srt_tail HXe.out HSX.out) (len_nil (by have := HY2.out; omega)))
                  have HRow := Lib.hid hr6'
                  have HG := Lib.hid hg6'
                  by_cases hF : D < F
                  · have j4 : (D : Int) < (F : Int) := by omega
                    have j5 : ¬ (F : Int) < (b : Int) := by omega
                    have hfin := halves (le := leT) (X1 := X1) (X2 := X2) (Y1 := Y1) (Y2 := Y2) (M1 := (X1 ++ Y1)) (M2 := (X2 ++ Y2)) (by rw [HXe.out]; exact HSX.out) (by rw [HYe.out]; exact HSY.out) H12.out H21.out (List.Perm.refl _) (List.Perm.refl _) HS1.out HS2.out
                    rw [HXe.out, HYe.out] at hfin
                    have HFIN := Lib.hid hfin
                    clear hfin
                    go_wp2_with fail
                    all_goals first | go_end0 | ((try simp only [Exit.inBlock, Exit.then]); refine bodyPost_ret (results_none rfl _ _ _) rfl ?_)
                    all_goals exact ⟨rfl, _, HFIN.out.2, HFIN.out.1, by simpa using HRow.out, HG.out⟩
                  · have j4 : ¬ (D : Int) < (F : Int) := by omega
                    have hfin := halves (le := leT) (X1 := X1) (X2 := X2) (Y1 := Y1) (Y2 := Y2) (M1 := (X1 ++ Y1)) (M2 := (X2 ++ Y2)) (by rw [HXe.out]; exact HSX.out) (by rw [HYe.out]; exact HSY.out) H12.out H21.out (List.Perm.refl _) (List.Perm.refl _) HS1.out HS2.out
                    rw [HXe.out, HYe.out] at hfin
                    have HFIN := Lib.hid hfin
                    clear hfin
                    go_wp2_with fail
                    all_goals first | go_end0 | ((try simp only [Exit.inBlock, Exit.then]); refine bodyPost_ret (results_none rfl _ _ _) rfl ?_)
                    all_goals exact ⟨rfl, _, HFIN.out.2, HFIN.out.1, by simpa using HRow.out, HG.out⟩
end Go.Proofs.YtipjomdldjbenaaGreat

/-! Putting terms in order by their words: the library's stable sort. Condition: at most 2^20 terms, words of at most 2^24 letters. -/
namespace Go.Proofs.YtipjomdldjbenaaGreat
open Go.RowKit
open Mrg
set_option maxRecDepth 20000

theorem sym_zero {blk N cap : Nat} : SymP blk N cap 0 := by
  intro A X Y Z L w a m b h hL ha hm hb hX hY hn
  omega
theorem sym_succ {blk N cap n : Nat} (ih : SymP blk N cap n) : SymP blk N cap (n + 1) := by
  intro A X Y Z L w a m b h hL ha hm hb hX hY hn hN hwd hSX hSY
  by_cases h1 : X.length = 1
  · obtain ⟨x, rfl⟩ := List.length_eq_one_iff.1 h1
    exact sym_left h hL ha (by simpa using hm) (by simpa using hb) hN hwd hSY
  · by_cases h2 : Y.length = 1
    · obtain ⟨y, rfl⟩ := List.length_eq_one_iff.1 h2
      exact sym_right h hL ha hm (by simpa using hb) (by omega) hN hwd hSX
    · exact sym_mid ih h hL ha hm hb (by omega) (by omega) hn hN hwd hSX hSY
theorem sym_all {blk N cap : Nat} : ∀ n, SymP blk N cap n
  | 0 => sym_zero
  | n + 1 => sym_succ (sym_all n)

theorem take_app {P Q : List El} {k : Nat} (h : P.length = k) : (P ++ Q).take k = P := by rw [List.take_append_of_le_length (by omega), List.take_of_length_le (by omega)]

set_option maxHeartbeats 8000000 in
theorem stableT {blk N cap : Nat} {L : List El} {w : World} (h : RowT blk N cap w L) (hN : N ≤ 1048576) (hwd : WdOk L) :
    Calls Tryz.prog 89 #[.slice (some ⟨blk, 0, none⟩) N cap, .int .i64 N, .func (.func 56) #[] #[]] w fun e w' =>
      e = .returned (.tuple #[]) ∧ ∃ M, M.Perm L ∧ Srt leT M ∧ RowT blk N cap w' M ∧ w.grownBy w' (some blk) := by
  have HWD := Lib.hid hwd
  clear hwd
  go_enter Tryz.func89, Tryz.ntmps89
  go_wp2_with fail
  go_loopw [7, 8] (fun av bv wr => ∃ (q A B : Nat) (P R : List El), av = .int .i64 (A : Int) ∧ bv = .int .i64 (B : Int) ∧ A ≤ N ∧ B ≤ A + 20 ∧ A + 20 ≤ B ∧ Hid (A = q * 20) ∧ Hid (P.length = q * 20) ∧ Hid (BS leT 20 P) ∧ Hid ((P ++ R).Perm L) ∧ RowT blk N cap wr (P ++ R) ∧ w.grownBy wr (some blk)) (fun av _ _ => N + 20 - (intOf av).toNat)
  case atStart => exact ⟨0, 0, 20, [], L, rfl, rfl, Nat.zero_le _, Nat.le_refl _, Nat.le_refl _, Lib.hid rfl, Lib.hid rfl, Lib.hid (bs_nil 20), Lib.hid (List.Perm.refl _), h, World.grownBy.refl _ _⟩
  case round =>
    obtain ⟨q, A, B, P, R, rfl, rfl, hq, hB1, hB2, HQ, HP, HS, HPM, hr, hg⟩ := hrel
    have HW := Lib.hid (wdOk_perm HWD.out HPM.out)
    have HLN := Lib.hid (show P.length + R.length = N by have := hr.1; rwa [List.length_append] at this)
    by_cases hb : B ≤ N
    · have i1 : (B : Int) ≤ (N : Int) := by omega
      have HT : Hid (R.take 20 ++ R.drop 20 = R) := Lib.hid (List.take_append_drop _ _)
      have HT1 : Hid ((R.take 20).length = 20) := Lib.hid (by have := HLN.out; have := HP.out; have := HQ.out; simp; omega)
      generalize R.take 20 = M at *
      generalize R.drop 20 = R2 at *
      go_wp2_with fail
      refine (insertionT (A := P) (M := M) (Z := R2) hr (by rw [HT.out]) (by rw [HP.out, HQ.out]) (by rw [HP.out, HT1.out]; have := HQ.out; omega) hN HW.out).mono ?_
      rintro e w1 ⟨rfl, M', hM1, hM2, hr1, hg1⟩
      have hML := hM1.length_eq
      have HML := Lib.hid (hML.trans HT1.out)
      have HM1 := Lib.hid hM1
      clear hML hM1
      go_wp2_with fail
      go_roundw
      case rel => exact ⟨q + 1, B, B + 20, P ++ M', R2, rfl, by go_num, hb, Nat.le_refl _, Nat.le_refl _, Lib.hid (by have := HQ.out; omega), Lib.hid (by rw [List.length_append, HP.out, HML.out]; omega), Lib.hid (bs_app HS.out HP.out hM2 (by rw [HML.out]; exact Nat.le_refl _)), Lib.hid (by
        refine List.Perm.trans ?_ HPM.out
        rw [List.append_assoc]
        refine List.Perm.append_left P ?_
        rw [← HT.out]
        exact HM1.out.append_right R2), by rw [List.append_assoc]; exact hr1, Off.tr hg hg1⟩
      case measure => simp [intOf]; omega
    · have i1 : ¬ (B : Int) ≤ (N : Int) := by omega
      go_wp2_with fail
      refine (insertionT (A := P) (M := R) (Z := []) hr (by rw [List.append_nil]) (by rw [HP.out, HQ.out]) (by rw [HLN.out]) hN HW.out).mono ?_
      rintro e w1 ⟨rfl, M', hM1, hM2, hr1, hg1⟩
      have HPM2 : Hid ((P ++ M').Perm L) := Lib.hid ((List.Perm.append_left P hM1).trans HPM.out)
      have HS1 : Hid (BS leT 20 (P ++ M')) := Lib.hid (bs_app HS.out HP.out hM2 (by have := hM1.length_eq; have := HLN.out; have := HP.out; have := HQ.out; omega))
      rw [List.append_nil] at hr1
      have hg1 := Off.tr hg hg1
      generalize P ++ M' = L1 at *
      clear hr hM1 hM2 HPM HS HP HQ HW HLN
      go_wp2_with fail
      go_loopw [6] (fun sv wr => ∃ (s : Nat) (K : List El), sv = .int .i64 (s : Int) ∧ 20 ≤ s ∧ s ≤ 2 * N + 20 ∧ Hid (BS leT s K) ∧ Hid (K.Perm L) ∧ RowT blk N cap wr K ∧ w.grownBy wr (some blk)) (fun sv _ => N - (intOf sv).toNat)
      case atStart => exact ⟨20, L1, rfl, Nat.le_refl _, by omega, HS1, HPM2, hr1, hg1⟩
      case round =>
        obtain ⟨s, K, rfl, hs1, hs2, HS, HPM, hr, hg⟩ := hrel
        by_cases hsN : s < N
        · have i2 : (s : Int) < (N : Int) := by omega
          obtain ⟨T, hT⟩ : ∃ T : Nat, T = 2 * s := ⟨_, rfl⟩
          have hT1 : 2 * (s : Int) = (T : Int) := by omega
          have hT2 : (s : Int) * 2 = (T : Int) := by omega
          have hT3 : T ≤ 2 * s := by omega
          have hT4 : 2 * s ≤ T := by omega
          have HT := Lib.hid hT
          clear hT
          go_wp2_with fail
          go_loopw [7, 8] (fun av bv wr => ∃ (q A B : Nat) (P R : List El), av = .int .i64 (A : Int) ∧ bv = .int .i64 (B : Int) ∧ A ≤ N ∧ B ≤ A + T ∧ A + T ≤ B ∧ Hid (A = q * T) ∧ Hid (P.length = q * T) ∧ Hid (BS leT T P) ∧ Hid (BS leT s R) ∧ Hid ((P ++ R).Perm L) ∧ RowT blk N cap wr (P ++ R) ∧ w.grownBy wr (some blk)) (fun av _ _ => N + T - (intOf av).toNat)
          case atStart => exact ⟨0, 0, T, [], K, rfl, rfl, Nat.zero_le _, by omega, by omega, Lib.hid (by omega), Lib.hid (by rw [Nat.zero_mul]; rfl), Lib.hid (bs_nil T), HS, HPM, hr, hg⟩
          case round =>
            obtain ⟨q, A, B, P, R, rfl, rfl, hq, hB1, hB2, HQ, HP, HS, HSR, HPM, hr, hg⟩ := hrel
            have HW := Lib.hid (wdOk_perm HWD.out HPM.out)
            have HLN := Lib.hid (show P.length + R.length = N by have := hr.1; rwa [List.length_append] at this)
            by_cases hb : B ≤ N
            · have i3 : (B : Int) ≤ (N : Int) := by omega
              obtain ⟨U, hU⟩ : ∃ U : Nat, U = A + s := ⟨_, rfl⟩
              have hAs : (A : Int) + (s : Int) = (U : Int) := by omega
              have HU := Lib.hid hU
              clear hU
              have HX : Hid (Srt leT (R.take s)) := Lib.hid (bs_head HSR.out)
              have HY : Hid (Srt leT ((R.drop s).take s)) := Lib.hid (bs_second HSR.out)
              have HR2 : Hid (BS leT s (R.drop (2 * s))) := Lib.hid (bs_drop HSR.out 2)
              have HT0 : Hid (R.take s ++ ((R.drop s).take s ++ R.drop (2 * s)) = R) := Lib.hid (by
                rw [show R.drop (2 * s) = (R.drop s).drop s by rw [List.drop_drop]; congr 1; omega, List.take_append_drop, List.take_append_drop])
              have HX1 : Hid ((R.take s).length = s) := Lib.hid (by have := HLN.out; have := HP.out; have := HQ.out; simp; omega)
              have HY1 : Hid (((R.drop s).take s).length = s) := Lib.hid (by have := HLN.out; have := HP.out; have := HQ.out; simp; omega)
              generalize R.take s = X at *
              generalize (R.drop s).take s = Y at *
              generalize R.drop (2 * s) = R2 at *
              go_wp2_with fail
              refine (sym_all (N + N) (A := P) (X := X) (Y := Y) (Z := R2) hr (by rw [HT0.out]) (by rw [HP.out, HQ.out]) (by rw [HP.out, HX1.out, HU.out, HQ.out]) (by rw [HP.out, HX1.out, HY1.out]; have := HQ.out; omega) (by rw [HX1.out]; omega) (by rw [HY1.out]; omega) (by rw [HX1.out, HY1.out]; omega) hN HW.out HX.out HY.out).mono ?_
              rintro e w1 ⟨rfl, M', hM1, hM2, hr1, hg1⟩
              have HML : Hid (M'.length = T) := Lib.hid (by have := hM1.length_eq; rw [List.length_append, HX1.out, HY1.out] at this; omega)
              have HM1 := Lib.hid hM1
              clear hM1
              go_wp2_with fail
              go_roundw
              case rel => exact ⟨q + 1, B, B + T, P ++ M', R2, rfl, by go_num, hb, by omega, by omega, Lib.hid (by have := HQ.out; rw [Nat.add_mul, Nat.one_mul]; omega), Lib.hid (by rw [List.length_append, HP.out, HML.out, Nat.add_mul, Nat.one_mul]), Lib.hid (bs_app HS.out HP.out hM2 (by rw [HML.out]; exact Nat.le_refl _)), HR2, Lib.hid (by
                refine List.Perm.trans ?_ HPM.out
                rw [List.append_assoc]
                refine List.Perm.append_left P ?_
                rw [← HT0.out, ← List.append_assoc X]
                exact HM1.out.append_right R2), by rw [List.append_assoc]; exact hr1, Off.tr hg hg1⟩
              case measure => simp [intOf]; omega
            · have i3 : ¬ (B : Int) ≤ (N : Int) := by omega
              by_cases hm : A + s < N
              · have i4 : (A : Int) + (s : Int) < (N : Int) := by omega
                obtain ⟨U, hU⟩ : ∃ U : Nat, U = A + s := ⟨_, rfl⟩
                have hAs : (A : Int) + (s : Int) = (U : Int) := by omega
                have HU := Lib.hid hU
                clear hU
                have HX : Hid (Srt leT (R.take s)) := Lib.hid (bs_head HSR.out)
                have HY : Hid (Srt leT (R.drop s)) := Lib.hid (by
                  have := bs_second HSR.out
                  rwa [List.take_of_length_le (by have := HLN.out; have := HP.out; have := HQ.out; simp; omega)] at this)
                have HT0 : Hid (R.take s ++ R.drop s = R) := Lib.hid (List.take_append_drop _ _)
                have HX1 : Hid ((R.take s).length = s) := Lib.hid (by have := HLN.out; have := HP.out; have := HQ.out; simp; omega)
                have HY1 : Hid ((R.drop s).length + (A + s) = N) := Lib.hid (by have := HLN.out; have := HP.out; have := HQ.out; simp; omega)
                generalize R.take s = X at *
                generalize R.drop s = Y at *
                go_wp2_with fail
                refine (sym_all (N + N) (A := P) (X := X) (Y := Y) (Z := []) hr (by rw [List.append_nil, HT0.out]) (by rw [HP.out, HQ.out]) (by rw [HP.out, HX1.out, HU.out, HQ.out]) (by rw [HP.out, HX1.out]; have := HQ.out; have := HY1.out; omega) (by rw [HX1.out]; omega) (by have := HY1.out; omega) (by rw [HX1.out]; have := HY1.out; omega) hN HW.out HX.out HY.out).mono ?_
                rintro e w1 ⟨rfl, M', hM1, hM2, hr1, hg1⟩
                have HBS : Hid (BS leT T (P ++ M')) := Lib.hid (bs_app HS.out HP.out hM2 (by have := hM1.length_eq; rw [List.length_append, HX1.out] at this; have := HY1.out; omega))
                have HPM2 : Hid ((P ++ M').Perm L) := Lib.hid ((List.Perm.append_left P (by rw [← HT0.out]; exact hM1)).trans HPM.out)
                rw [List.append_nil] at hr1
                clear hM1 hM2
                go_wp2_with fail
                go_roundw
                case rel => exact ⟨T, P ++ M', rfl, by omega, by omega, HBS, HPM2, hr1, Off.tr hg hg1⟩
                case measure => simp [intOf]; omega
              · have i4 : ¬ (A : Int) + (s : Int) < (N : Int) := by omega
                have HBS : Hid (BS leT T (P ++ R)) := Lib.hid (bs_app HS.out HP.out (bs_one HSR.out (by have := HLN.out; have := HP.out; have := HQ.out; omega)) (by have := HLN.out; have := HP.out; have := HQ.out; omega))
                go_wp2_with fail
                go_roundw
                case rel => exact ⟨T, P ++ R, rfl, by omega, by omega, HBS, HPM, hr, hg⟩
                case measure => simp [intOf]; omega
        · have i2 : ¬ (s : Int) < (N : Int) := by omega
          have HSRT : Hid (Srt leT K) := Lib.hid (bs_one HS.out (by have := hr.1; omega))
          go_wp2_with fail
          go_end0
          exact ⟨rfl, K, HPM.out, HSRT.out, hr, hg⟩

set_option maxHeartbeats 1000000 in
theorem sortStableT {blk N cap : Nat} {L : List El} {w : World} (h : RowT blk N cap w L) (hN : N ≤ 1048576) (hwd : WdOk L) :
    Calls Tryz.prog 55 #[.slice (some ⟨blk, 0, none⟩) N cap, .func (.func 56) #[] #[]] w fun e w' =>
      e = .returned (.tuple #[]) ∧ ∃ M, M.Perm L ∧ Srt leT M ∧ RowT blk N cap w' M ∧ w.grownBy w' (some blk) := by
  have hc := stableT h hN hwd
  go_enter Tryz.func55, Tryz.ntmps55
  go_wp2_with fail
  refine hc.mono ?_
  rintro e w1 ⟨rfl, hM⟩
  go_wp2_with fail
  go_end0
  exact ⟨rfl, hM⟩
end Go.Proofs.YtipjomdldjbenaaGreat
