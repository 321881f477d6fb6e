/- A list of lists of the call's own, each with a row of its own: 'append' of one more, and a number stored in one. Condition: at most 2^26 rows. -/
import Derived.Test.YtipjomdldjbenaaGreatDoorJOwnR
import Derived.Test.YtipjomdldjbenaaGreatDoorJLawRows
import Derived.Test.YtipjomdldjbenaaGreatDoorJGCart
namespace Go.Proofs.YtipjomdldjbenaaGreatDoor
open Go.RowKit
set_option maxRecDepth 20000

theorem FI.grown {S : Nat → Prop} {w w' : World} {v r : Value} {l : List Int} (h : FI S w r l) (hg : w.grownBy w' v.ownBlock) (ht : ∀ b, v.ownBlock = some b → ∃ cur, w.heap[b]? = some (.cells cur 28 (0, 0))) : FI S w' r l :=
  h.keep fun b hb => hg.block b (h.1.lt b hb).2 (fun e => by
    obtain ⟨c1, t1⟩ := ht b e.symm
    obtain ⟨c2, t2⟩ := own_tag h.1 hb
    rw [t1] at t2
    simp at t2)

section
variable {w : World} {ops : Array Oper} {rest : List Oper} {o : Oper} {a : Act} {Q : Exit → Act → World → Prop}
theorem wp_appF {W : World} {K : Act → World → Prop} (s x : Operand)
    (ho : o.op = .call { callee := .builtin .append, args := #[s, x], argTypes := #[22, 22] })
    {v : Value} {L : List (List Int)} {r : Value} {l : List Int} (hs : a.eval s = v) {M : Nat} (hf : FII (Bt W.heap.size M) w v L) (hWM : W.heap.size ≤ M) (hM : M ≤ w.heap.size) (hb : Below W.heap.size W w)
    {H : Nat} (hx : a.eval x = .slice (some ⟨H, 0, none⟩) 1 1) (hc : w.cell? ⟨H, 0, none⟩ = some r) (hr : FI (Bt M w.heap.size) w r l) (hlen : L.length + 1 ≤ 67108864)
    (h : ∀ v' w', FII (New W w') w' v' (L ++ [l]) → Below W.heap.size W w' → w.grownBy w' v.ownBlock → K (a.put o.dst v') w') : o.wp Tryz.prog a w K Q := by
  obtain ⟨i0, hi, hz0, hz1, hz2⟩ := info_parts infoInts
  obtain ⟨vs, hown, hvl, hS, hrs, hds⟩ := hf
  have hvl' : vs.length = L.length := by rw [hvl]; simp
  have hown' : w.ownsRow W.heap.size 28 1 v L.length vs := by
    refine ⟨hown.1, ?_⟩
    rcases hown.2 with h | ⟨g, cap, cur, hv, _, r⟩
    · exact .inl h
    · exact .inr ⟨g, cap, cur, hv, (hS g (by rw [hv]; rfl)).1, r⟩
  refine wp_append_own w s x 22 ho W.heap.size 28 i0 (.slice none 0 0) 1 24 Tryz.underlying22 hi hz0 hz1 hz2 rfl (by decide) v L.length vs hs hown' ⟨H, 0, none⟩ 1 1 [r] hx rfl ?_ ?_ ?_ ?_ hb.size ?_
  · intro j u hj
    match j, hj with
    | 0, hj => simp at hj; subst hj; simpa [Addr.add] using hc
  · intro u hu
    simp at hu; subst hu
    obtain ⟨_, _, rfl⟩ := hr.form
    rfl
  · unfold maxLen; omega
  · omega
  · intro v' w' h1 h2 _
    have hb' : Below W.heap.size W w' := hb.grown h2 hb.size (fun k hk => (hS k hk).1)
    have hsz : w.heap.size ≤ w'.heap.size := h2.size
    have htag : ∀ b, v.ownBlock = some b → ∃ cur, w.heap[b]? = some (.cells cur 28 (0, 0)) := fun b hb => own_tag hown hb
    have old : ∀ (j : Nat) (r' : Value), vs[j]? = some r' → ∃ l', L[j]? = some l' ∧ FI (Bt W.heap.size M) w r' l' := by
      intro j r' hr'
      have hj : j < L.length := by
        rcases Nat.lt_or_ge j vs.length with h | h
        · omega
        · rw [List.getElem?_eq_none h] at hr'; cases hr'
      have hx : (itRows L)[j]? = some (.inl L[j]) := itRows_at (by simp [hj])
      exact ⟨L[j], by simp [hj], hrs j r' _ hr' hx⟩
    refine h v' w' ⟨vs ++ [r], ?_, by simp [hvl], fun b hb => ?_, fun j r' x' hr' hx' => ?_, fun i j r1 r2 b hij hr1 hr2 hb1 => ?_⟩ hb' h2
    · rw [List.length_append]
      exact own_base h1 (Nat.zero_le _)
    · exact ⟨(h1.lt b hb).1, (h1.lt b hb).2⟩
    · rcases Nat.lt_or_ge j L.length with hj | hj
      · rw [List.getElem?_append_left (by omega)] at hr'
        obtain ⟨l', hl', hf'⟩ := old j r' hr'
        have e : (itRows (L ++ [l]))[j]? = some (.inl l') := itRows_at (by rw [List.getElem?_append_left hj]; exact hl')
        rw [e] at hx'
        injection hx' with hx'
        subst hx'
        exact (hf'.grown h2 htag).mono (fun b hb => ⟨hb.1, by have := hb.2; omega⟩)
      · rw [List.getElem?_append_right (by omega)] at hr'
        have h0 : j - vs.length = 0 := by
          rcases Nat.eq_zero_or_pos (j - vs.length) with h | h
          · exact h
          · rw [List.getElem?_eq_none (by simp; omega)] at hr'; cases hr'
        rw [h0] at hr'
        simp at hr'
        subst hr'
        have e : (itRows (L ++ [l]))[j]? = some (.inl l) := itRows_at (by rw [List.getElem?_append_right hj, show j - L.length = 0 by omega]; rfl)
        rw [e] at hx'
        injection hx' with hx'
        subst hx'
        exact (hr.grown h2 htag).mono (fun b hb => ⟨by have := hb.1; omega, by have := hb.2; omega⟩)
    · have pos : ∀ (i : Nat) (r1 : Value), (vs ++ [r])[i]? = some r1 → (vs[i]? = some r1 ∧ i < vs.length) ∨ (r1 = r ∧ i = vs.length) := by
        intro i r1 hr1
        rcases Nat.lt_or_ge i vs.length with h | h
        · rw [List.getElem?_append_left h] at hr1; exact .inl ⟨hr1, h⟩
        · rw [List.getElem?_append_right h] at hr1
          have h0 : i - vs.length = 0 := by
            rcases Nat.eq_zero_or_pos (i - vs.length) with h | h
            · exact h
            · rw [List.getElem?_eq_none (by simp; omega)] at hr1; cases hr1
          rw [h0] at hr1
          simp at hr1
          exact .inr ⟨hr1.symm, by omega⟩
      rcases pos i r1 hr1 with ⟨a1, a2⟩ | ⟨a1, a2⟩ <;> rcases pos j r2 hr2 with ⟨c1, c2⟩ | ⟨c1, c2⟩
      · exact hds i j r1 r2 b hij a1 c1 hb1
      · subst c1
        obtain ⟨l', _, hf'⟩ := old i r1 a1
        intro e
        have g1 := (hf'.2 b hb1).2
        have g2 := (hr.2 b e).1
        omega
      · subst a1
        obtain ⟨l', _, hf'⟩ := old j r2 c1
        intro e
        have g1 := (hf'.2 b e).2
        have g2 := (hr.2 b hb1).1
        omega
      · omega
theorem wpList_appF {W : World} (hgd : o.guard = none) (s x : Operand)
    (ho : o.op = .call { callee := .builtin .append, args := #[s, x], argTypes := #[22, 22] })
    {v : Value} {L : List (List Int)} {r : Value} {l : List Int} (hs : a.eval s = v) {M : Nat} (hf : FII (Bt W.heap.size M) w v L) (hWM : W.heap.size ≤ M) (hM : M ≤ w.heap.size) (hb : Below W.heap.size W w)
    {H : Nat} (hx : a.eval x = .slice (some ⟨H, 0, none⟩) 1 1) (hc : w.cell? ⟨H, 0, none⟩ = some r) (hr : FI (Bt M w.heap.size) w r l) (hlen : L.length + 1 ≤ 67108864)
    (h : ∀ v' w', FII (New W w') w' v' (L ++ [l]) → Below W.heap.size W w' → w.grownBy w' v.ownBlock → wpList Tryz.prog ops Q rest (a.put o.dst v') w') : wpList Tryz.prog ops Q (o :: rest) a w :=
  wpList_plain hgd fun _ hK => wp_appF s x ho hs hf hWM hM hb hx hc hr hlen (fun v' w' h1 h2 h3 => hK _ _ (h v' w' h1 h2 h3))
end

theorem FII.empty_of {W w w1 : World} (hw : Below W.heap.size W w) (h : w1 = w.alloc (.cells #[] 28)) : FII (New W w1) w1 (.slice (some ⟨w.heap.size, 0, none⟩) 0 0) [] ∧ Below W.heap.size W w1 := by
  have hb : Below W.heap.size W w1 := by rw [h]; exact hw.alloc hw.size _
  refine ⟨⟨[], ?_, rfl, fun b hb => ?_, fun j r x hr _ => by simp at hr, fun i j r r' b _ hr => by simp at hr⟩, hb⟩
  · rw [h]
    exact World.ownsRow_lit (base := 0) (e := 28) (size := 1) w #[] 0 (Nat.zero_le _) (by unfold maxLen; omega) rfl
  · simp [Value.ownBlock] at hb
    subst hb
    exact ⟨hw.size, by rw [h]; simp⟩

/-- A number stored in a row of a list of lists. -/
theorem FII.store {S : Nat → Prop} {w : World} {g n cap : Nat} {L : List (List Int)} (h : FII S w (.slice (some ⟨g, 0, none⟩) n cap) L) (hn : L.length = n) {k : Nat} {l : List Int} (hk : L[k]? = some l) {i : Nat} (hi : i < l.length) :
    ∃ gr cr, w.cell? ⟨g, k, none⟩ = some (.slice (some ⟨gr, 0, none⟩) l.length cr) ∧ w.frozen? ⟨gr, i, none⟩ = false ∧ (∃ y, w.cell? ⟨gr, i, none⟩ = some (.int .i64 y)) ∧ S gr ∧
      ∀ x, FII S (w.setCell ⟨gr, i, none⟩ (.int .i64 x)) (.slice (some ⟨g, 0, none⟩) n cap) (L.set k (l.set i x)) := by
  subst hn
  have hat := itRows_at hk
  obtain ⟨r, hc, hr, _⟩ := FC.cell h hat
  have hr : FI S w r l := hr
  obtain ⟨ar, cr, rfl⟩ := hr.form
  obtain ⟨gr, rfl, hS, _⟩ := hr.head (by omega)
  obtain ⟨y, hy⟩ : ∃ y, l[i]? = some y := ⟨_, List.getElem?_eq_getElem hi⟩
  refine ⟨gr, cr, hc, hr.froz rfl i, ⟨y, hr.cell hy hi⟩, hS, fun x => ?_⟩
  have hcell : ∃ vs, w.ownsRow 0 28 1 (.slice (some ⟨g, 0, none⟩) L.length cap) L.length vs ∧ vs[k]? = some (.slice (some ⟨gr, 0, none⟩) l.length cr) := by
    obtain ⟨vs, g1, g2, _⟩ := h
    refine ⟨vs, g1, ?_⟩
    have hil : k < vs.length := by
      rw [g2]
      rcases Nat.lt_or_ge k (itRows L).length with h' | h'
      · exact h'
      · rw [List.getElem?_eq_none h'] at hat; cases hat
    have := g1.cellAt k (by rw [← g1.1]; exact hil)
    rw [← this, hc]
  have e1 := FC.turned h (by decide) hat hcell (w' := w.setCell ⟨gr, i, none⟩ (.int .i64 x)) (l' := l.set i x) ((Only.refl (fun b => (Value.slice (some ⟨gr, 0, none⟩) l.length cr).ownBlock = some b) w).setCell rfl _) (fun hf => hf.put rfl i x)
  have e2 : (itRows L).set k (.inl (l.set i x)) = itRows (L.set k (l.set i x)) := by simp [itRows, List.map_set]
  rw [e2] at e1
  show FC S 28 1 _ _ (L.set k (l.set i x)).length _
  rw [List.length_set]
  exact e1
end Go.Proofs.YtipjomdldjbenaaGreatDoor
