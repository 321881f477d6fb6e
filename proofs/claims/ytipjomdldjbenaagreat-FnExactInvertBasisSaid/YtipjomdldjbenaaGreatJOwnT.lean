/- A list of terms of the call's own, each word and polynomial with a row of its own: 'append' of one more; a polynomial laid anew. Condition: at most 2^25 terms. -/
import Derived.Test.YtipjomdldjbenaaGreatJOwnF
import Derived.Test.YtipjomdldjbenaaGreatJBasis
namespace Go.Proofs.YtipjomdldjbenaaGreat
open Go.RowKit
set_option maxRecDepth 20000

theorem infoTerm : (Tryz.prog.info? 46).map (fun i => (i.zero, i.size, i.bytes)) = some (some (.agg #[.slice none 0 0, .slice none 0 0]), 2, 48) := by kernel_rfl
theorem flatT_app : ∀ L M : List Trm, flatT (L ++ M) = flatT L ++ flatT M
  | [], M => rfl
  | x :: L, M => by simp [flatT, flatT_app L M]
theorem flatT_snoc (L : List Trm) (x y : List Int) : flatT (L ++ [(x, y)]) = flatT L ++ [x, y] := flatT_app L _
theorem FI.grownT {S : Nat → Prop} {w w' : World} {v r : Value} {l : List Int} (h : FI S w r l) (hg : w.grownBy w' v.ownBlock) (ht : ∀ b, v.ownBlock = some b → ∃ cur, w.heap[b]? = some (.cells cur 46 (0, 0))) : FI S w' r l :=
  h.keep fun b hb => hg.block b (h.1.lt b hb).2 (fun e => by
    obtain ⟨c1, t1⟩ := ht b e.symm
    obtain ⟨c2, t2⟩ := own_tag h.1 hb
    rw [t1] at t2
    simp at t2)

section
variable {w : World} {ops : Array Oper} {rest : List Oper} {o : Oper} {a : Act} {Q : Exit → Act → World → Prop}
theorem wp_appT {W : World} {K : Act → World → Prop} (s x : Operand)
    (ho : o.op = .call { callee := .builtin .append, args := #[s, x], argTypes := #[25, 25] })
    {v : Value} {L : List Trm} {r1 r2 : Value} {l1 l2 : List Int} (hs : a.eval s = v) {M : Nat} (hf : FT (Bt W.heap.size M) w v L) (hWM : W.heap.size ≤ M) (hM : M ≤ w.heap.size) (hb : Below W.heap.size W w)
    {H : Nat} (hx : a.eval x = .slice (some ⟨H, 0, none⟩) 1 1) (hc1 : w.cell? ⟨H, 0, none⟩ = some r1) (hc2 : w.cell? ⟨H, 1, none⟩ = some r2) (hr1 : FI (Bt M w.heap.size) w r1 l1) (hr2 : FI (Bt M w.heap.size) w r2 l2)
    (hap : ∀ b, r1.ownBlock = some b → r2.ownBlock ≠ some b) (hlen : L.length + 1 ≤ 33554432)
    (h : ∀ v' w', FT (New W w') w' v' (L ++ [(l1, l2)]) → Below W.heap.size W w' → w.grownBy w' v.ownBlock → K (a.put o.dst v') w') : o.wp Tryz.prog a w K Q := by
  obtain ⟨i0, hi, hz0, hz1, hz2⟩ := info_parts infoTerm
  obtain ⟨vs, hown, hvl, hS, hrs, hds⟩ := hf
  have hvl' : vs.length = L.length * 2 := by rw [hvl]; simp [flatT_length]
  have hown' : w.ownsRow W.heap.size 46 2 v L.length vs := by
    refine ⟨hown.1, ?_⟩
    rcases hown.2 with h | ⟨g, cap, cur, hv, _, r⟩
    · exact .inl h
    · exact .inr ⟨g, cap, cur, hv, (hS g (by rw [hv]; rfl)).1, r⟩
  refine wp_append_own w s x 25 ho W.heap.size 46 i0 (.agg #[.slice none 0 0, .slice none 0 0]) 2 48 Tryz.underlying25 hi hz0 hz1 hz2 rfl (by decide) v L.length vs hs hown' ⟨H, 0, none⟩ 1 1 [r1, r2] hx rfl ?_ ?_ ?_ ?_ hb.size ?_
  · intro j u hj
    match j, hj with
    | 0, hj => simp at hj; subst hj; simpa [Addr.add] using hc1
    | 1, hj => simp at hj; subst hj; simpa [Addr.add] using hc2
  · intro u hu
    obtain ⟨_, _, e1⟩ := hr1.form
    obtain ⟨_, _, e2⟩ := hr2.form
    simp at hu
    rcases hu with rfl | rfl
    · rw [e1]; rfl
    · rw [e2]; rfl
  · unfold maxLen; omega
  · omega
  · intro v' w' h1 h2 _
    have hb' : Below W.heap.size W w' := hb.grown h2 hb.size (fun k hk => (hS k hk).1)
    have hsz : w.heap.size ≤ w'.heap.size := h2.size
    have htag : ∀ b, v.ownBlock = some b → ∃ cur, w.heap[b]? = some (.cells cur 46 (0, 0)) := fun b hb => own_tag hown hb
    have hfl := flatT_length L
    have old : ∀ (j : Nat) (r' : Value), vs[j]? = some r' → ∃ l', (flatT L)[j]? = some l' ∧ FI (Bt W.heap.size M) w r' l' := by
      intro j r' hr'
      have hj : j < (flatT L).length := by
        rcases Nat.lt_or_ge j vs.length with h | h
        · omega
        · rw [List.getElem?_eq_none h] at hr'; cases hr'
      have hx : (itRows (flatT L))[j]? = some (.inl (flatT L)[j]) := itRows_at (by simp [hj])
      exact ⟨(flatT L)[j], by simp [hj], hrs j r' _ hr' hx⟩
    have pos : ∀ (i : Nat) (r3 : Value), (vs ++ [r1, r2])[i]? = some r3 → (vs[i]? = some r3 ∧ i < vs.length) ∨ (r3 = r1 ∧ i = vs.length) ∨ (r3 = r2 ∧ i = vs.length + 1) := by
      intro i r3 hr3
      rcases Nat.lt_or_ge i vs.length with h | h
      · rw [List.getElem?_append_left h] at hr3; exact .inl ⟨hr3, h⟩
      · rw [List.getElem?_append_right h] at hr3
        rcases Nat.lt_or_ge (i - vs.length) 2 with h3 | h3
        · rcases Nat.lt_or_ge (i - vs.length) 1 with h4 | h4
          · rw [show i - vs.length = 0 by omega] at hr3
            simp at hr3
            exact .inr (.inl ⟨hr3.symm, by omega⟩)
          · rw [show i - vs.length = 1 by omega] at hr3
            simp at hr3
            exact .inr (.inr ⟨hr3.symm, by omega⟩)
        · rw [List.getElem?_eq_none (by simp; omega)] at hr3; cases hr3
    have inW : ∀ (r3 : Value) (l3 : List Int), FI (Bt M w.heap.size) w r3 l3 → FI (New W w') w' r3 l3 := fun r3 l3 hr => (hr.grownT h2 htag).mono (fun b hb => ⟨by have := hb.1; omega, by have := hb.2; omega⟩)
    refine h v' w' ⟨vs ++ [r1, r2], ?_, ?_, fun b hb => ?_, fun j r' x' hr' hx' => ?_, fun i j ra rb b hij hra hrb hb1 => ?_⟩ hb' h2
    · rw [List.length_append]
      exact own_base h1 (Nat.zero_le _)
    · rw [flatT_snoc]; simp [itRows]; omega
    · exact ⟨(h1.lt b hb).1, (h1.lt b hb).2⟩
    · rw [flatT_snoc] at hx'
      rcases pos j r' hr' with ⟨p1, p2⟩ | ⟨p1, p2⟩ | ⟨p1, p2⟩
      · obtain ⟨l', hl', hf'⟩ := old j r' p1
        have e : (itRows (flatT L ++ [l1, l2]))[j]? = some (.inl l') := itRows_at (by rw [List.getElem?_append_left (by omega)]; exact hl')
        rw [e] at hx'
        injection hx' with hx'
        subst hx'
        exact (hf'.grownT h2 htag).mono (fun b hb => ⟨hb.1, by have := hb.2; omega⟩)
      · have e : (itRows (flatT L ++ [l1, l2]))[j]? = some (.inl l1) := itRows_at (by rw [List.getElem?_append_right (by omega), show j - (flatT L).length = 0 by omega]; rfl)
        rw [e] at hx'
        injection hx' with hx'
        subst hx' p1
        exact inW _ _ hr1
      · have e : (itRows (flatT L ++ [l1, l2]))[j]? = some (.inl l2) := itRows_at (by rw [List.getElem?_append_right (by omega), show j - (flatT L).length = 1 by omega]; rfl)
        rw [e] at hx'
        injection hx' with hx'
        subst hx' p1
        exact inW _ _ hr2
    · have newO : ∀ {r3 r4 : Value} {l3 l4 : List Int}, FI (Bt W.heap.size M) w r3 l3 → FI (Bt M w.heap.size) w r4 l4 → r3.ownBlock = some b → r4.ownBlock ≠ some b := fun f3 f4 e3 e4 => by
        have g1 := (f3.2 b e3).2
        have g2 := (f4.2 b e4).1
        omega
      rcases pos i ra hra with ⟨a1, a2⟩ | ⟨a1, a2⟩ | ⟨a1, a2⟩ <;> rcases pos j rb hrb with ⟨c1, c2⟩ | ⟨c1, c2⟩ | ⟨c1, c2⟩
      · exact hds i j ra rb b hij a1 c1 hb1
      · obtain ⟨l', _, hf'⟩ := old i ra a1
        rw [c1]; exact newO hf' hr1 hb1
      · obtain ⟨l', _, hf'⟩ := old i ra a1
        rw [c1]; exact newO hf' hr2 hb1
      · obtain ⟨l', _, hf'⟩ := old j rb c1
        rw [a1] at hb1
        exact fun e => newO hf' hr1 e hb1
      · omega
      · rw [c1]; rw [a1] at hb1; exact hap b hb1
      · obtain ⟨l', _, hf'⟩ := old j rb c1
        rw [a1] at hb1
        exact fun e => newO hf' hr2 e hb1
      · rw [c1]; rw [a1] at hb1; exact fun e => hap b e hb1
      · omega
theorem wpList_appT {W : World} (hgd : o.guard = none) (s x : Operand)
    (ho : o.op = .call { callee := .builtin .append, args := #[s, x], argTypes := #[25, 25] })
    {v : Value} {L : List Trm} {r1 r2 : Value} {l1 l2 : List Int} (hs : a.eval s = v) {M : Nat} (hf : FT (Bt W.heap.size M) w v L) (hWM : W.heap.size ≤ M) (hM : M ≤ w.heap.size) (hb : Below W.heap.size W w)
    {H : Nat} (hx : a.eval x = .slice (some ⟨H, 0, none⟩) 1 1) (hc1 : w.cell? ⟨H, 0, none⟩ = some r1) (hc2 : w.cell? ⟨H, 1, none⟩ = some r2) (hr1 : FI (Bt M w.heap.size) w r1 l1) (hr2 : FI (Bt M w.heap.size) w r2 l2)
    (hap : ∀ b, r1.ownBlock = some b → r2.ownBlock ≠ some b) (hlen : L.length + 1 ≤ 33554432)
    (h : ∀ v' w', FT (New W w') w' v' (L ++ [(l1, l2)]) → Below W.heap.size W w' → w.grownBy w' v.ownBlock → wpList Tryz.prog ops Q rest (a.put o.dst v') w') : wpList Tryz.prog ops Q (o :: rest) a w :=
  wpList_plain hgd fun _ hK => wp_appT s x ho hs hf hWM hM hb hx hc1 hc2 hr1 hr2 hap hlen (fun v' w' h1 h2 h3 => hK _ _ (h v' w' h1 h2 h3))
theorem step_appT {W : World} {K : Act → World → Prop} {E : Prop} (hgd : o.guard = none) (s x : Operand)
    (ho : o.op = .call { callee := .builtin .append, args := #[s, x], argTypes := #[25, 25] })
    {v : Value} {L : List Trm} {r1 r2 : Value} {l1 l2 : List Int} (hs : a.eval s = v) {M : Nat} (hf : FT (Bt W.heap.size M) w v L) (hWM : W.heap.size ≤ M) (hM : M ≤ w.heap.size) (hb : Below W.heap.size W w)
    {H : Nat} (hx : a.eval x = .slice (some ⟨H, 0, none⟩) 1 1) (hc1 : w.cell? ⟨H, 0, none⟩ = some r1) (hc2 : w.cell? ⟨H, 1, none⟩ = some r2) (hr1 : FI (Bt M w.heap.size) w r1 l1) (hr2 : FI (Bt M w.heap.size) w r2 l2)
    (hap : ∀ b, r1.ownBlock = some b → r2.ownBlock ≠ some b) (hlen : L.length + 1 ≤ 33554432)
    (h : ∀ v' w', FT (New W w') w' v' (L ++ [(l1, l2)]) → Below W.heap.size W w' → w.grownBy w' v.ownBlock → K (a.put o.dst v') w') :
    if Region.wanted o (yielded ops a.tmps) = true then Oper.wp Tryz.prog o a w K Q else E := by
  have hw : Region.wanted o (yielded ops a.tmps) = true := by simp [Region.wanted, hgd]
  rw [if_pos hw]
  exact wp_appT s x ho hs hf hWM hM hb hx hc1 hc2 hr1 hr2 hap hlen h
end
end Go.Proofs.YtipjomdldjbenaaGreat
