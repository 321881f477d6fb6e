/- A slice that owns its row, whose cells are numbers or slices of numbers with rows of their own, all apart. No condition. -/
import Derived.Test.YtkgjecabigdnoaaJBase
namespace Go.Proofs.Ytkgjecabigdnoaa
open Go.RowKit
set_option maxRecDepth 20000

abbrev It := List Int ⊕ Int
def CellIs (S : Nat → Prop) (w : World) (r : Value) : It → Prop
  | .inl l => FI S w r l
  | .inr n => r = .int .i64 n

/-- The value v owns a row of n elements of type e, 'sz' cells each; its cells read as the items; all blocks lie in S, and no two cells share one. -/
def FC (S : Nat → Prop) (e : TypeId) (sz : Nat) (w : World) (v : Value) (n : Nat) (items : List It) : Prop :=
  ∃ vs, w.ownsRow 0 e sz v n vs ∧ vs.length = items.length ∧ (∀ b, v.ownBlock = some b → S b) ∧
    (∀ (j : Nat) (r : Value) (x : It), vs[j]? = some r → items[j]? = some x → CellIs S w r x) ∧
    (∀ (i j : Nat) (r r' : Value) (b : Nat), i ≠ j → vs[i]? = some r → vs[j]? = some r' → r.ownBlock = some b → r'.ownBlock ≠ some b)

theorem CellIs.keep {S : Nat → Prop} {w w' : World} {r : Value} {x : It} (h : CellIs S w r x) (hb : ∀ b, r.ownBlock = some b → w'.heap[b]? = w.heap[b]?) : CellIs S w' r x := by
  cases x with
  | inl l => exact FI.keep h hb
  | inr n => exact h

theorem CellIs.lt {S : Nat → Prop} {w : World} {r : Value} {x : It} (h : CellIs S w r x) {b : Nat} (hb : r.ownBlock = some b) : b < w.heap.size ∧ S b := by
  cases x with
  | inl l => exact ⟨(h.1.lt b hb).2, h.2 b hb⟩
  | inr n => rw [show r = .int .i64 n from h] at hb; cases hb

/-- A cell's own block bears numbers. -/
theorem CellIs.tag {S : Nat → Prop} {w : World} {r : Value} {x : It} (h : CellIs S w r x) {b : Nat} (hb : r.ownBlock = some b) : ∃ cur, w.heap[b]? = some (.cells cur 3 (0, 0)) := by
  cases x with
  | inl l =>
    rcases h.1.2 with ⟨rfl, _⟩ | ⟨g, cap, cur, rfl, _, hg, _⟩
    · cases hb
    · simp [Value.ownBlock] at hb
      subst hb
      exact ⟨cur, hg⟩
  | inr n => rw [show r = .int .i64 n from h] at hb; cases hb

theorem own_tag {w : World} {B : Nat} {e : TypeId} {sz n : Nat} {v : Value} {xs : List Value} (h : w.ownsRow B e sz v n xs) {b : Nat} (hb : v.ownBlock = some b) : ∃ cur, w.heap[b]? = some (.cells cur e (0, 0)) := by
  rcases h.2 with ⟨rfl, _⟩ | ⟨g, cap, cur, rfl, _, hg, _⟩
  · cases hb
  · simp [Value.ownBlock] at hb
    subst hb
    exact ⟨cur, hg⟩

section
variable {S : Nat → Prop} {e : TypeId} {sz : Nat} {w w' : World} {v : Value} {n : Nat} {items : List It}

theorem FC.keep (h : FC S e sz w v n items) (hb : ∀ b, S b → b < w.heap.size → w'.heap[b]? = w.heap[b]?) : FC S e sz w' v n items := by
  obtain ⟨vs, h1, h2, h3, h4, h5⟩ := h
  exact ⟨vs, own_keep h1 (fun b hv => hb b (h3 b hv) (h1.lt b hv).2), h2, h3, fun j r x hr hx => (h4 j r x hr hx).keep fun b hv => hb b ((h4 j r x hr hx).lt hv).2 ((h4 j r x hr hx).lt hv).1, h5⟩

theorem FC.below (h : FC S e sz w v n items) (hb : Below w.heap.size w w') : FC S e sz w' v n items := h.keep fun b _ hl => hb.block b hl
theorem FC.only {S' : Nat → Prop} (h : FC S e sz w v n items) (k : Only S' w w') (hd : ∀ b, S b → ¬ S' b) : FC S e sz w' v n items := h.keep fun b hs _ => k.block b (hd b hs)
theorem FC.mono {S' : Nat → Prop} (h : FC S e sz w v n items) (hS : ∀ b, S b → S' b) : FC S' e sz w v n items := by
  obtain ⟨vs, h1, h2, h3, h4, h5⟩ := h
  refine ⟨vs, h1, h2, fun b hb => hS b (h3 b hb), fun j r x hr hx => ?_, h5⟩
  have := h4 j r x hr hx
  cases x with
  | inl l => exact FI.mono this hS
  | inr n => exact this

theorem FC.len (h : FC S e sz w v n items) : items.length = n * sz := by
  obtain ⟨vs, h1, h2, _⟩ := h
  rw [← h2]; exact h1.1

theorem FC.form (h : FC S e sz w v n items) : ∃ a cap, v = .slice a n cap ∧ n ≤ cap := by
  obtain ⟨vs, h1, _⟩ := h
  rcases h1.2 with ⟨rfl, rfl⟩ | ⟨g, cap, cur, rfl, _, _, h, _⟩
  · exact ⟨_, _, rfl, Nat.le_refl _⟩
  · exact ⟨_, _, rfl, h⟩

/-- Nothing yet: a nil slice. -/
theorem FC.nil (S : Nat → Prop) (e : TypeId) (sz : Nat) (w : World) : FC S e sz w (.slice none 0 0) 0 [] :=
  ⟨[], World.ownsRow_nil _ _ _ _, rfl, fun b hb => (by cases hb), fun j r x hr _ => (by simp at hr), fun i j r r' b _ hr => (by simp at hr)⟩

/-- A row of the call's own whose cells bear no rows: numbers, or nil slices. -/
theorem FC.of_row {B : Nat} {xs : List Value} (h : w'.ownsRow B e sz v n xs) (hB : w.heap.size ≤ B) (hl : xs.length = items.length)
    (hx : ∀ (j : Nat) (r : Value) (x : It), xs[j]? = some r → items[j]? = some x → CellIs (New w w') w' r x ∧ r.ownBlock = none) : FC (New w w') e sz w' v n items := by
  refine ⟨xs, own_base h (Nat.zero_le _), hl, fun b hb => ?_, fun j r x hr hx' => (hx j r x hr hx').1, fun i j r r' b _ hr _ hb => ?_⟩
  · have := h.lt b hb; exact ⟨by omega, this.2⟩
  · have hi : i < items.length := by
      rcases Nat.lt_or_ge i items.length with h | h
      · exact h
      · rw [List.getElem?_eq_none (by omega)] at hr; cases hr
    have := (hx i r items[i] hr (by simp [hi])).2
    rw [this] at hb; cases hb

/-- The cell j, as the walk reads it. -/
theorem FC.cell {g cap : Nat} (h : FC S e sz w (.slice (some ⟨g, 0, none⟩) n cap) n items) {j : Nat} {x : It} (hj : items[j]? = some x) :
    ∃ r, w.cell? ⟨g, j, none⟩ = some r ∧ CellIs S w r x ∧ w.frozen? ⟨g, j, none⟩ = false := by
  obtain ⟨vs, h1, h2, h3, h4, _⟩ := h
  have hl : j < items.length := by
    rcases Nat.lt_or_ge j items.length with h | h
    · exact h
    · rw [List.getElem?_eq_none h] at hj; cases hj
  have hv : j < vs.length := by omega
  have hc := h1.cellAt j (by rw [← h1.1]; exact hv)
  rw [List.getElem?_eq_getElem hv] at hc
  exact ⟨vs[j], hc, h4 j _ x (by simp [hv]) hj, h1.frozenAt j⟩

theorem FC.head (h : FC S e sz w v n items) (hn : 0 < n) : ∃ g cap, v = .slice (some ⟨g, 0, none⟩) n cap ∧ S g := by
  obtain ⟨vs, h1, _, h3, _⟩ := h
  rcases h1.2 with ⟨rfl, rfl⟩ | ⟨g, cap, cur, rfl, _⟩
  · omega
  · exact ⟨g, cap, rfl, h3 g rfl⟩

/-- A cell's row has been written, nothing else. -/
theorem FC.turned (h : FC S e sz w v n items) (he : e ≠ 3) {j : Nat} {r : Value} {l l' : List Int} (hx : items[j]? = some (.inl l)) (hcell : ∃ vs, w.ownsRow 0 e sz v n vs ∧ vs[j]? = some r)
    (ho : Only (fun b => r.ownBlock = some b) w w') (hr : FI S w r l → FI S w' r l') : FC S e sz w' v n (items.set j (.inl l')) := by
  obtain ⟨vs, h1, h2, h3, h4, h5⟩ := h
  obtain ⟨vs', h1', hr'⟩ := hcell
  have e1 : vs' = vs := by
    rcases h1.2 with ⟨hv, hn⟩ | ⟨g, cap, cur, hv, _, hg, _, _, _, ht⟩
    · have z1 : vs = [] := List.eq_nil_of_length_eq_zero (by rw [h1.1, hn]; simp)
      have z2 : vs' = [] := List.eq_nil_of_length_eq_zero (by rw [h1'.1, hn]; simp)
      rw [z1, z2]
    · rcases h1'.2 with ⟨hv', hn'⟩ | ⟨g', cap', cur', hv', _, hg', _, _, _, ht'⟩
      · rw [hv'] at hv; cases hv
      · rw [hv'] at hv
        simp only [Value.slice.injEq, Option.some.injEq, Addr.mk.injEq, and_true, true_and] at hv
        obtain ⟨e1, e2⟩ := hv
        subst e1
        rw [hg'] at hg
        simp only [Option.some.injEq, Obj.cells.injEq, and_true] at hg
        rw [← ht, ← ht', hg]
  subst e1
  have hfi : FI S w r l := h4 j r _ hr' hx
  have hjl : j < items.length := by
    rcases Nat.lt_or_ge j items.length with h | h
    · exact h
    · rw [List.getElem?_eq_none h] at hx; cases hx
  have outer : ∀ b, v.ownBlock = some b → w'.heap[b]? = w.heap[b]? := fun b hb => ho.block b (fun hb' => by
    obtain ⟨c1, t1⟩ := own_tag h1 hb
    obtain ⟨c2, t2⟩ := CellIs.tag (x := .inl l) hfi hb'
    rw [t1] at t2
    simp only [Option.some.injEq, Obj.cells.injEq] at t2
    exact he t2.2.1)
  refine ⟨vs', own_keep h1 outer, by simpa using h2, h3, fun i r1 x hr1 hx1 => ?_, h5⟩
  by_cases hij : i = j
  · subst hij
    rw [hr'] at hr1
    cases hr1
    simp [hjl] at hx1
    subst hx1
    exact hr hfi
  · rw [List.getElem?_set_ne (by omega)] at hx1
    exact (h4 i r1 x hr1 hx1).keep fun b hb => ho.block b (fun hb' => h5 i j r1 r b hij hr1 hr' hb hb')

/-- A number's cell has been stored. -/
theorem FC.stored {g cap : Nat} (h : FC S e sz w (.slice (some ⟨g, 0, none⟩) n cap) n items) (he : e ≠ 3) {j : Nat} {q : Int} (hx : items[j]? = some (.inr q)) (q' : Int) :
    FC S e sz (w.setCell ⟨g, j, none⟩ (.int .i64 q')) (.slice (some ⟨g, 0, none⟩) n cap) n (items.set j (.inr q')) := by
  obtain ⟨vs, h1, h2, h3, h4, h5⟩ := h
  have hst := h1.stored j (.int .i64 q')
  have hjl : j < items.length := by
    rcases Nat.lt_or_ge j items.length with h | h
    · exact h
    · rw [List.getElem?_eq_none h] at hx; cases hx
  have hq : vs[j]? = some (.int .i64 q) := by
    have hv : j < vs.length := by omega
    have := h4 j vs[j] (.inr q) (by simp [hv]) hx
    rw [List.getElem?_eq_getElem hv]
    exact congrArg some this
  refine ⟨vs.set j (.int .i64 q'), hst.1, by simpa using h2, h3, fun i r1 x hr1 hx1 => ?_, fun i k r r' b hik hr hr' hb => ?_⟩
  · by_cases hij : i = j
    · subst hij
      have hv : i < vs.length := by omega
      simp [hjl] at hx1
      simp [hv] at hr1
      subst hx1
      exact hr1.symm
    · rw [List.getElem?_set_ne (by omega)] at hx1 hr1
      refine (h4 i r1 x hr1 hx1).keep fun b hb => ?_
      refine heap_setCell_other w ⟨g, j, none⟩ b _ (fun e1 => ?_)
      obtain ⟨c1, t1⟩ := own_tag h1 (b := g) rfl
      obtain ⟨c2, t2⟩ := (h4 i r1 x hr1 hx1).tag hb
      subst e1
      rw [t1] at t2
      simp only [Option.some.injEq, Obj.cells.injEq] at t2
      exact he t2.2.1
  · have nb : ∀ (i : Nat) (r : Value) (b : Nat), (vs.set j (.int .i64 q'))[i]? = some r → r.ownBlock = some b → vs[i]? = some r := by
      intro i r b h1 h2
      by_cases hij : i = j
      · subst hij
        have hv : i < vs.length := by omega
        simp [hv] at h1
        subst h1
        cases h2
      · rwa [List.getElem?_set_ne (by omega)] at h1
    intro hb'
    exact h5 i k r r' b hik (nb i r b hr hb) (nb k r' b hr' hb') hb hb'

/-- A cell that bears no row gets one, with a row of its own apart from all others. -/
theorem FC.put {g cap : Nat} (h : FC S e sz w (.slice (some ⟨g, 0, none⟩) n cap) n items) (he : e ≠ 3) {j : Nat} {r : Value} {l : List Int} (hj : j < items.length) (hr : FI S w r l)
    (hd : ∀ (i : Nat) (r' : Value) (b : Nat), w.cell? ⟨g, i, none⟩ = some r' → i ≠ j → i < items.length → r.ownBlock = some b → r'.ownBlock ≠ some b) :
    FC S e sz (w.setCell ⟨g, j, none⟩ r) (.slice (some ⟨g, 0, none⟩) n cap) n (items.set j (.inl l)) := by
  obtain ⟨vs, h1, h2, h3, h4, h5⟩ := h
  have hst := h1.stored j r
  have hd' : ∀ (i : Nat) (r' : Value) (b : Nat), vs[i]? = some r' → i ≠ j → r.ownBlock = some b → r'.ownBlock ≠ some b := by
    intro i r' b hi hij hb
    have hv : i < vs.length := by
      rcases Nat.lt_or_ge i vs.length with h | h
      · exact h
      · rw [List.getElem?_eq_none h] at hi; cases hi
    refine hd i r' b ?_ hij (by omega) hb
    rw [h1.cellAt i (by rw [← h1.1]; exact hv)]
    exact hi
  have gkeep : ∀ (b : Nat) (c : Array Value), w.heap[b]? = some (Obj.cells c 3 (0, 0)) → (w.setCell ⟨g, j, none⟩ r).heap[b]? = w.heap[b]? := fun b c t2 => by
    refine heap_setCell_other w ⟨g, j, none⟩ b _ (fun e1 => ?_)
    obtain ⟨c1, t1⟩ := own_tag h1 (b := g) rfl
    subst e1
    rw [t1] at t2
    simp only [Option.some.injEq, Obj.cells.injEq] at t2
    exact he t2.2.1
  refine ⟨vs.set j r, hst.1, by simpa using h2, h3, fun i r1 x hr1 hx1 => ?_, fun i k r1 r2 b hik hr1 hr2 hb => ?_⟩
  · by_cases hij : i = j
    · subst hij
      have hv : i < vs.length := by omega
      simp [hj] at hx1
      simp [hv] at hr1
      subst hx1
      subst hr1
      exact CellIs.keep (x := .inl l) hr (fun b hb => let ⟨c, t⟩ := CellIs.tag (x := .inl l) hr hb; gkeep b c t)
    · rw [List.getElem?_set_ne (by omega)] at hx1 hr1
      exact (h4 i r1 x hr1 hx1).keep fun b hb => let ⟨c, t⟩ := (h4 i r1 x hr1 hx1).tag hb; gkeep b c t
  · have hv : j < vs.length := by omega
    by_cases hij : i = j
    · subst hij
      simp [hv] at hr1
      subst hr1
      rw [List.getElem?_set_ne (by omega)] at hr2
      exact hd' k r2 b hr2 (by omega) hb
    · rw [List.getElem?_set_ne (by omega)] at hr1
      by_cases hkj : k = j
      · subst hkj
        simp [hv] at hr2
        subst hr2
        exact fun hb2 => hd' i r1 b hr1 hij hb2 hb
      · rw [List.getElem?_set_ne (by omega)] at hr2
        exact h5 i k r1 r2 b hik hr1 hr2 hb
end

abbrev itRows (L : List (List Int)) : List It := L.map .inl
/-- A fresh slice of fresh slices of numbers. -/
abbrev FII (S : Nat → Prop) (w : World) (v : Value) (L : List (List Int)) : Prop := FC S 24 1 w v L.length (itRows L)

theorem FII.read {S : Nat → Prop} {w : World} {v : Value} {L : List (List Int)} (h : FII S w v L) : RII S w v L := by
  obtain ⟨vs, h1, h2, h3, h4, _⟩ := h
  refine RL.of_own h1 rfl (fun b hb _ => h3 b hb) (fun j x r hx hr => ?_)
  exact FI.reads (h4 j r (.inl x) hr (by simp [hx]))
theorem FII.below {S : Nat → Prop} {w w' : World} {v : Value} {L : List (List Int)} (h : FII S w v L) (hb : Below w.heap.size w w') : FII S w' v L := FC.below h hb
theorem FII.only {S S' : Nat → Prop} {w w' : World} {v : Value} {L : List (List Int)} (h : FII S w v L) (k : Only S' w w') (hd : ∀ b, S b → ¬ S' b) : FII S w' v L := FC.only h k hd
theorem FII.any {S : Nat → Prop} {w : World} {v : Value} {L : List (List Int)} (h : FII S w v L) : RII Any w v L := RII.any h.read
end Go.Proofs.Ytkgjecabigdnoaa
