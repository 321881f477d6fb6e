/- ScaleHecke of the reference. Condition: sizes up to 2^20. What it means that a list of terms is an element: its words, polynomials, sizes. Plain lists. ScaleHecke of the program. Condition: sizes up to 2^20. -/
import Derived.Test.YtipjomdldjbenaaGreatJGColl
import Derived.Test.YtipjomdldjbenaaGreatJPutS
import Derived.Test.YtipjomdldjbenaaGreatJGMul2
import Derived.Test.YtipjomdldjbenaaGreatJIsHeckeS
import Derived.Test.YtipjomdldjbenaaGreatJGTerms
import Derived.Test.YtipjomdldjbenaaGreatJIsHecke
/-! ScaleHecke of the reference. Condition: sizes up to 2^20. -/
namespace Go.Proofs.YtipjomdldjbenaaGreat
open Go.RowKit
set_option maxRecDepth 20000

def scB (c : List (List Int)) (p : List Int) (L : List Trm) : Bool := isHk c L && (isP p && scOk p L)
def scR (c : List (List Int)) (p : List Int) (L : List Trm) : List Trm := if scB c p L = true then puts (scT p L) else []
theorem trm_le : ∀ {L : List Trm} {x : Trm}, x ∈ L → x.1.length + x.2.length ≤ totalT L
  | y :: L, x, h => by
    have h3 : totalT (y :: L) = totalT L + 1 + y.1.length + y.2.length := by simp [totalT, flatT]; omega
    rw [List.mem_cons] at h
    rcases h with rfl | h
    · omega
    · have := trm_le h; omega
theorem FT.none0 {W w : World} (hb : Below W.heap.size W w) : FT (New W (w.alloc (.cells #[] 46))) (w.alloc (.cells #[] 46)) (.slice (some ⟨w.heap.size, 0, none⟩) 0 0) [] := FC.of_row (w := W) (World.ownsRow_lit (base := w.heap.size) (e := 46) (size := 2) w #[] 0 (Nat.le_refl _) (by unfold maxLen; omega) rfl) hb.size rfl (fun j r x hr _ => by simp at hr)

end Go.Proofs.YtipjomdldjbenaaGreat

/-! What it means that a list of terms is an element: its words, polynomials, sizes. Plain lists. -/
namespace Go.Proofs.YtipjomdldjbenaaGreat
open Go.RowKit

theorem hkFrom_all {c : List (List Int)} : ∀ {L : List Trm} {q : Option (List Int)}, hkFrom c q L = true → (∀ t ∈ L, isE c t.1 = true ∧ isP t.2 = true ∧ t.2 ≠ []) ∧ L.Pairwise (fun a b => cmpW a.1 b.1 < 0) ∧ (∀ u, q = some u → ∀ t ∈ L, cmpW u t.1 < 0)
  | [], q, _ => ⟨fun t h => by simp at h, List.Pairwise.nil, fun u _ t h => by simp at h⟩
  | x :: L, q, h => by
    simp only [hkFrom, Bool.and_eq_true] at h
    obtain ⟨h1, h2, h3, h4, h5⟩ := h
    obtain ⟨a1, a2, a3⟩ := hkFrom_all h5
    have hx : isE c x.1 = true ∧ isP x.2 = true ∧ x.2 ≠ [] := ⟨h1, h2, by
      intro e
      rw [e] at h3
      simp at h3⟩
    refine ⟨fun t ht => ?_, List.pairwise_cons.2 ⟨fun t ht => a3 x.1 rfl t ht, a2⟩, fun u hu t ht => ?_⟩
    · rcases List.mem_cons.1 ht with rfl | ht
      · exact hx
      · exact a1 t ht
    · subst hu
      have hux : cmpW u x.1 < 0 := by simpa using h4
      rcases List.mem_cons.1 ht with rfl | ht
      · exact hux
      · exact cmpW_lt_trans hux (a3 x.1 rfl t ht)
theorem isP_parts {p : List Int} (h : isP p = true) : p.length ≤ 61 ∧ Trd p := by
  unfold isP at h
  simp only [Bool.and_eq_true, decide_eq_true_eq] at h
  refine ⟨h.1, ?_⟩
  rcases trimTo_num p p.length with h1 | h1
  · exact .inl (List.eq_nil_of_length_eq_zero (by rw [← h.2, h1]))
  · rw [h.2] at h1; exact .inr h1
structure Hk (c : List (List Int)) (L : List Trm) : Prop where
  car : isC c = true
  len : L.length ≤ 60
  wd : ∀ t ∈ L, isE c t.1 = true
  poly : ∀ t ∈ L, t.2.length ≤ 61
  ne : ∀ t ∈ L, t.2 ≠ []
  tr : ∀ t ∈ L, Trd t.2
  srt : L.Pairwise fun a b => cmpW a.1 b.1 < 0
theorem isHk_parts {c : List (List Int)} {L : List Trm} (h : isHk c L = true) : Hk c L := by
  unfold isHk at h
  simp only [Bool.and_eq_true, decide_eq_true_eq] at h
  obtain ⟨h1, h2, h3⟩ := h
  obtain ⟨a1, a2, _⟩ := hkFrom_all h3
  exact ⟨h1, h2, fun t ht => (a1 t ht).1, fun t ht => (isP_parts (a1 t ht).2.1).1, fun t ht => (a1 t ht).2.2, fun t ht => (isP_parts (a1 t ht).2.1).2, a2⟩
theorem Hk.word {c : List (List Int)} {L : List Trm} (h : Hk c L) {t : Trm} (ht : t ∈ L) : t.1.length ≤ 15 ∧ isWd c t.1 = true := by
  have := (isE_wd (h.wd t ht)).1
  exact ⟨(isWd_parts this).2.1, this⟩
theorem Hk.can {c : List (List Int)} {L : List Trm} (h : Hk c L) (hi : ∀ t ∈ L, InI t.2) : Can L := ⟨h.srt, h.ne, h.tr, hi⟩
theorem totalT_le {A B : Nat} : ∀ {L : List Trm}, (∀ t ∈ L, t.1.length ≤ A ∧ t.2.length ≤ B) → totalT L ≤ L.length * (1 + A + B)
  | [], _ => by simp [totalT, flatT]
  | x :: L, h => by
    have h1 := totalT_le (fun t ht => h t (List.mem_cons_of_mem _ ht))
    have h2 := h x (List.mem_cons_self ..)
    have h3 : totalT (x :: L) = totalT L + 1 + x.1.length + x.2.length := by simp [totalT, flatT]; omega
    rw [h3, List.length_cons, Nat.add_mul]
    omega
theorem Hk.total {c : List (List Int)} {L : List Trm} (h : Hk c L) : totalT L ≤ 4620 := by
  have h1 := totalT_le (A := 15) (B := 61) (fun t ht => ⟨(h.word ht).1, h.poly t ht⟩)
  have := h.len
  omega
theorem scT_length (p : List Int) (h : List Trm) : (scT p h).length = h.length := by unfold scT; simp
theorem scT_total {c : List (List Int)} {L : List Trm} {p : List Int} (h : Hk c L) : totalT (puts (scT p L)) ≤ 4680 := by
  obtain ⟨a1, a2⟩ := puts_all (A := 15) (B := 62) _ (scT p L) rfl (scT_len (fun t ht => (h.word ht).1))
  have h1 := totalT_le a2
  rw [scT_length] at a1
  have := h.len
  omega
end Go.Proofs.YtipjomdldjbenaaGreat

/-! ScaleHecke of the program. Condition: sizes up to 2^20. -/
namespace Go.Proofs.YtipjomdldjbenaaGreat
open Go.RowKit
set_option maxRecDepth 20000

theorem RT.one {w w' : World} {r r' : Value} {x y : List Int} (hw : w' = w.alloc (.cells #[r, r'] 46)) (h1 : RI Any w r x) (h2 : RI Any w r' y) : RT Any w' (.slice (some ⟨w.heap.size, 0, none⟩) 1 1) [(x, y)] :=
  RT.lit [⟨r, r', x, y⟩] hw (by simp) (fun e he => by rw [List.mem_singleton] at he; subst he; exact ⟨h1, h2⟩)
theorem RT.two {w w' : World} {r r' s s' : Value} {x y u v : List Int} (hw : w' = w.alloc (.cells #[r, r', s, s'] 46)) (h1 : RI Any w r x) (h2 : RI Any w r' y) (h3 : RI Any w s u) (h4 : RI Any w s' v) :
    RT Any w' (.slice (some ⟨w.heap.size, 0, none⟩) 2 2) [(x, y), (u, v)] :=
  RT.lit [⟨r, r', x, y⟩, ⟨s, s', u, v⟩] hw (by simp) (fun e he => by
    rcases List.mem_cons.1 he with rfl | he
    · exact ⟨h1, h2⟩
    · rw [List.mem_singleton] at he; subst he; exact ⟨h3, h4⟩)

theorem scR_total (c : List (List Int)) (p : List Int) (L : List Trm) : totalT (scR c p L) ≤ 4680 := by
  unfold scR
  by_cases h : scB c p L = true
  · rw [if_pos h]
    unfold scB at h
    simp only [Bool.and_eq_true] at h
    exact scT_total (isHk_parts h.1)
  · rw [if_neg h]; simp [totalT, flatT]

end Go.Proofs.YtipjomdldjbenaaGreat
