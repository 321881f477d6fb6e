/- A term of an element, by the program and by the reference. Condition: sizes up to 2^24. A list of terms of the call's own, each word and polynomial with a row of its own: 'append' of one more; a polynomial laid anew. Condition: at most 2^25 terms. -/
import Derived.Test.YtipjomdldjbenaaGreatDoorKGNrm
import Derived.Test.YtipjomdldjbenaaGreatDoorKLawTerm
import Derived.Test.YtipjomdldjbenaaGreatDoorKGOwn
/-! A term of an element, by the program and by the reference. Condition: sizes up to 2^24. -/
namespace Go.Proofs.YtipjomdldjbenaaGreatDoor
open Go.RowKit
set_option maxRecDepth 20000

theorem itRows_one (x y : List Int) : itRows (flatT [(x, y)]) = [.inl x, .inl y] := rfl

/-- A new block of one term of two rows of the call's own, apart from one another. -/
theorem FT.one {W w w' : World} {u v : Value} {x y : List Int} (hu : FI (New W w) w u x) (hv : FI (New W w) w v y) (hd : ∀ b, u.ownBlock = some b → v.ownBlock ≠ some b) (hs : W.heap.size ≤ w.heap.size)
    (hw : w' = w.alloc (.cells #[u, v] 73)) : FT (New W w') w' (.slice (some ⟨w.heap.size, 0, none⟩) 1 1) [(x, y)] := by
  have hb : Below w.heap.size w w' := by rw [hw]; exact (Below.refl _ w).alloc (Nat.le_refl _) _
  have hu' := hu.grow hb
  have hv' := hv.grow hb
  have hrow : w'.ownsRow w.heap.size 73 2 (.slice (some ⟨w.heap.size, 0, none⟩) 1 1) 1 [u, v] := by
    rw [hw]
    exact World.ownsRow_lit (base := w.heap.size) (e := 73) (size := 2) w #[u, v] 1 (Nat.le_refl _) (by unfold maxLen; omega) rfl
  refine ⟨[u, v], own_base hrow (Nat.zero_le _), rfl, fun b hb' => ?_, fun j r z hr hz => ?_, fun i j r r' b hij hr hr' hb' => ?_⟩
  · have := hrow.lt b hb'; exact ⟨by omega, this.2⟩
  · rw [itRows_one] at hz
    match j, hr, hz with
    | 0, hr, hz => simp at hr hz; subst hr; subst hz; exact hu'
    | 1, hr, hz => simp at hr hz; subst hr; subst hz; exact hv'
  · match i, j, hr, hr' with
    | 0, 0, _, _ => exact absurd rfl hij
    | 0, 1, hr, hr' => simp at hr hr'; subst hr; subst hr'; exact hd b hb'
    | 1, 0, hr, hr' => simp at hr hr'; subst hr; subst hr'; exact fun h => hd b h hb'
    | 1, 1, _, _ => exact absurd rfl hij

theorem size_alloc (w : World) (X : Obj) : (w.alloc X).heap.size = w.heap.size + 1 := by simp
set_option maxHeartbeats 1000000 in
theorem termSpec {S S' : Nat → Prop} {u v : Value} {x y : List Int} {w : World} (h : RI S w u x) (h' : RI S' w v y) (hl : x.length ≤ 16777216) (hl' : y.length ≤ 16777216) :
    Calls Tryz.prog 112 #[u, v] w fun e w' => ∃ p q, e = .returned (.agg #[p, q]) ∧ FI (New w w') w' p x ∧ FI (New w w') w' q y ∧ (∀ b, p.ownBlock = some b → q.ownBlock ≠ some b) ∧ Below w.heap.size w w' := by
  have h := h.old
  have h' := h'.old
  obtain ⟨a, cap, rfl⟩ := h.form
  obtain ⟨a', cap', rfl⟩ := h'.form
  generalize hn : x.length = n at *
  have HX := Lib.hid hn
  generalize hn' : y.length = n' at *
  have HY := Lib.hid hn'
  clear hn hn'
  go_enter Tryz.func112, Tryz.ntmps112
  have HW : Hid True := Lib.hid trivial
  have b1 : Below w.heap.size w (w.alloc (.cells #[.slice none 0 0, .slice none 0 0] 73)) := (Below.refl _ w).alloc (Nat.le_refl _) _
  have z1 : (w.alloc (.cells #[.slice none 0 0, .slice none 0 0] 73)).heap.size = w.heap.size + 1 := size_alloc _ _
  have c10 : (w.alloc (.cells #[.slice none 0 0, .slice none 0 0] 73)).cell? ⟨w.heap.size, 0, none⟩ = some (.slice none 0 0) := by go_simp
  have c11 : (w.alloc (.cells #[.slice none 0 0, .slice none 0 0] 73)).cell? ⟨w.heap.size, 1, none⟩ = some (.slice none 0 0) := by go_simp
  have f10 : (w.alloc (.cells #[.slice none 0 0, .slice none 0 0] 73)).frozen? ⟨w.heap.size, 0, none⟩ = false := by go_simp
  have f11 : (w.alloc (.cells #[.slice none 0 0, .slice none 0 0] 73)).frozen? ⟨w.heap.size, 1, none⟩ = false := by go_simp
  have hx1 := h.below b1
  generalize hW1 : w.alloc (.cells #[.slice none 0 0, .slice none 0 0] 73) = W1 at *
  obtain ⟨f1, b2⟩ := fresh_of (W := W1) (w := W1) (Below.refl _ W1) rfl
  rw [z1] at f1
  go_wp2_with (at_builtin; go_must (refine wpList_app (W := W1) rfl _ _ rfl rfl f1 b2 rfl (hx1.below b2) ?_ ?_))
  · have := HX.out; simp; omega
  · intro p w2 f2 b3 _
    have f2 : FI (New W1 w2) w2 p x := by first | exact f2 | (unfold New; rw [z1]; exact f2)
    have b3 : Below W1.heap.size W1 w2 := by first | exact b3 | (rw [z1]; exact b3)
    have hy2 := (h'.below b1).below b3
    obtain ⟨pa, pc, rfl⟩ := f2.form
    rw [HX.out] at f2 ⊢
    have c10 := (b3.cell (p := ⟨w.heap.size, 0, none⟩) (by simp; omega)).trans c10
    have c11 := (b3.cell (p := ⟨w.heap.size, 1, none⟩) (by simp; omega)).trans c11
    have f10 := (b3.frozen (p := ⟨w.heap.size, 0, none⟩) (by simp; omega)).trans f10
    have f11 := (b3.frozen (p := ⟨w.heap.size, 1, none⟩) (by simp; omega)).trans f11
    obtain ⟨f3, b4⟩ := fresh_of (W := w2) (w := w2) (Below.refl _ w2) rfl
    go_wp2_with (at_builtin; go_must (refine wpList_app (W := w2) rfl _ _ rfl rfl f3 b4 rfl (hy2.below b4) ?_ ?_))
    · have := HY.out; simp; omega
    · intro q w3 f4 b5 _
      have f4 : FI (New w2 w3) w3 q y := f4
      obtain ⟨qa, qc, rfl⟩ := f4.form
      rw [HY.out] at f4 ⊢
      have f2 := f2.below b5
      have z2 := b3.size
      have c10 := (b5.cell (p := ⟨w.heap.size, 0, none⟩) (by simp; omega)).trans c10
      have c11 := (b5.cell (p := ⟨w.heap.size, 1, none⟩) (by simp; omega)).trans c11
      have f10 := (b5.frozen (p := ⟨w.heap.size, 0, none⟩) (by simp; omega)).trans f10
      have f11 := (b5.frozen (p := ⟨w.heap.size, 1, none⟩) (by simp; omega)).trans f11
      go_wp2_with fail
      have z3 := b5.size
      refine bodyPost_ret (v := .agg #[.slice pa n pc, .slice qa n' qc]) (by simp [results, Tryz.results112, go_sem, c10, c11]) rfl ⟨_, _, rfl, ?_, ?_, ?_, ?_⟩
      · have g0 : ¬ New W1 w2 w.heap.size := fun hb => by have := hb.1; omega
        exact ((f2.set _ g0).set _ g0).mono (fun b hb => ⟨by have := hb.1; omega, by simp only [size_setCell]; have := hb.2; omega⟩)
      · have g0 : ¬ New w2 w3 w.heap.size := fun hb => by have := hb.1; omega
        exact ((f4.set _ g0).set _ g0).mono (fun b hb => ⟨by have := hb.1; omega, by simp only [size_setCell]; exact hb.2⟩)
      · intro b hb hb'
        have h1 := (f2.2 b hb).2
        have h2 := (f4.2 b hb').1
        omega
      · exact ((Keeps.step b1 (Keeps.step b3 b5)).setCell (by simp) _).setCell (by simp) _

end Go.Proofs.YtipjomdldjbenaaGreatDoor

/-! A list of terms of the call's own, each word and polynomial with a row of its own: 'append' of one more; a polynomial laid anew. Condition: at most 2^25 terms. -/
namespace Go.Proofs.YtipjomdldjbenaaGreatDoor
open Go.RowKit
set_option maxRecDepth 20000

theorem infoTerm : (Tryz.prog.info? 73).map (fun i => (i.zero, i.size, i.bytes)) = some (some (.agg #[.slice none 0 0, .slice none 0 0]), 2, 48) := by kernel_rfl
theorem flatT_app : ∀ L M : List Trm, flatT (L ++ M) = flatT L ++ flatT M
  | [], M => rfl
  | x :: L, M => by simp [flatT, flatT_app L M]
theorem flatT_snoc (L : List Trm) (x y : List Int) : flatT (L ++ [(x, y)]) = flatT L ++ [x, y] := flatT_app L _
theorem FI.grownT {S : Nat → Prop} {w w' : World} {v r : Value} {l : List Int} (h : FI S w r l) (hg : w.grownBy w' v.ownBlock) (ht : ∀ b, v.ownBlock = some b → ∃ cur, w.heap[b]? = some (.cells cur 73 (0, 0))) : FI S w' r l :=
  h.keep fun b hb => hg.block b (h.1.lt b hb).2 (fun e => by
    obtain ⟨c1, t1⟩ := ht b e.symm
    obtain ⟨c2, t2⟩ := own_tag h.1 hb
    rw [t1] at t2
    simp at t2)

section
variable {w : World} {ops : Array Oper} {rest : List Oper} {o : Oper} {a : Act} {Q : Exit → Act → World → Prop}
theorem wp_appT {W : World} {K : Act → World → Prop} (s x : Operand)
    (ho : o.op = .call { callee := .builtin .append, args := #[s, x], argTypes := #[46, 46] })
    {v : Value} {L : List Trm} {r1 r2 : Value} {l1 l2 : List Int} (hs : a.eval s = v) {M : Nat} (hf : FT (Bt W.heap.size M) w v L) (hWM : W.heap.size ≤ M) (hM : M ≤ w.heap.size) (hb : Below W.heap.size W w)
    {H : Nat} (hx : a.eval x = .slice (some ⟨H, 0, none⟩) 1 1) (hc1 : w.cell? ⟨H, 0, none⟩ = some r1) (hc2 : w.cell? ⟨H, 1, none⟩ = some r2) (hr1 : FI (Bt M w.heap.size) w r1 l1) (hr2 : FI (Bt M w.heap.size) w r2 l2)
    (hap : ∀ b, r1.ownBlock = some b → r2.ownBlock ≠ some b) (hlen : L.length + 1 ≤ 33554432)
    (h : ∀ v' w', FT (New W w') w' v' (L ++ [(l1, l2)]) → Below W.heap.size W w' → w.grownBy w' v.ownBlock → K (a.put o.dst v') w') : o.wp Tryz.prog a w K Q := by
  obtain ⟨i0, hi, hz0, hz1, hz2⟩ := info_parts infoTerm
  obtain ⟨vs, hown, hvl, hS, hrs, hds⟩ := hf
  have hvl' : vs.length = L.length * 2 := by rw [hvl]; simp [flatT_length]
  have hown' : w.ownsRow W.heap.size 73 2 v L.length vs := by
    refine ⟨hown.1, ?_⟩
    rcases hown.2 with h | ⟨g, cap, cur, hv, _, r⟩
    · exact .inl h
    · exact .inr ⟨g, cap, cur, hv, (hS g (by rw [hv]; rfl)).1, r⟩
  refine wp_append_own w s x 46 ho W.heap.size 73 i0 (.agg #[.slice none 0 0, .slice none 0 0]) 2 48 Tryz.underlying46 hi hz0 hz1 hz2 rfl (by decide) v L.length vs hs hown' ⟨H, 0, none⟩ 1 1 [r1, r2] hx rfl ?_ ?_ ?_ ?_ hb.size ?_
  · intro j u hj
    match j, hj with
    | 0, hj => simp at hj; subst hj; simpa [Addr.add] using hc1
    | 1, hj => simp at hj; subst hj; simpa [Addr.add] using hc2
  · intro u hu
    obtain ⟨_, _, e1⟩ := hr1.form
    obtain ⟨_, _, e2⟩ := hr2.form
    simp at hu
    rcases hu with rfl | rfl
    · rw [e1]; rfl
    · rw [e2]; rfl
  · unfold maxLen; omega
  · omega
  · intro v' w' h1 h2 _
    have hb' : Below W.heap.size W w' := hb.grown h2 hb.size (fun k hk => (hS k hk).1)
    have hsz : w.heap.size ≤ w'.heap.size := h2.size
    have htag : ∀ b, v.ownBlock = some b → ∃ cur, w.heap[b]? = some (.cells cur 73 (0, 0)) := fun b hb => own_tag hown hb
    have hfl := flatT_length L
    have old : ∀ (j : Nat) (r' : Value), vs[j]? = some r' → ∃ l', (flatT L)[j]? = some l' ∧ FI (Bt W.heap.size M) w r' l' := by
      intro j r' hr'
      have hj : j < (flatT L).length := by
        rcases Nat.lt_or_ge j vs.length with h | h
        · omega
        · rw [List.getElem?_eq_none h] at hr'; cases hr'
      have hx : (itRows (flatT L))[j]? = some (.inl (flatT L)[j]) := itRows_at (by simp [hj])
      exact ⟨(flatT L)[j], by simp [hj], hrs j r' _ hr' hx⟩
    have pos : ∀ (i : Nat) (r3 : Value), (vs ++ [r1, r2])[i]? = some r3 → (vs[i]? = some r3 ∧ i < vs.length) ∨ (r3 = r1 ∧ i = vs.length) ∨ (r3 = r2 ∧ i = vs.length + 1) := by
      intro i r3 hr3
      rcases Nat.lt_or_ge i vs.length with h | h
      · rw [List.getElem?_append_left h] at hr3; exact .inl ⟨hr3, h⟩
      · rw [List.getElem?_append_right h] at hr3
        rcases Nat.lt_or_ge (i - vs.length) 2 with h3 | h3
        · rcases Nat.lt_or_ge (i - vs.length) 1 with h4 | h4
          · rw [show i - vs.length = 0 by omega] at hr3
            simp at hr3
            exact .inr (.inl ⟨hr3.symm, by omega⟩)
          · rw [show i - vs.length = 1 by omega] at hr3
            simp at hr3
            exact .inr (.inr ⟨hr3.symm, by omega⟩)
        · rw [List.getElem?_eq_none (by simp; omega)] at hr3; cases hr3
    have inW : ∀ (r3 : Value) (l3 : List Int), FI (Bt M w.heap.size) w r3 l3 → FI (New W w') w' r3 l3 := fun r3 l3 hr => (hr.grownT h2 htag).mono (fun b hb => ⟨by have := hb.1; omega, by have := hb.2; omega⟩)
    refine h v' w' ⟨vs ++ [r1, r2], ?_, ?_, fun b hb => ?_, fun j r' x' hr' hx' => ?_, fun i j ra rb b hij hra hrb hb1 => ?_⟩ hb' h2
    · rw [List.length_append]
      exact own_base h1 (Nat.zero_le _)
    · rw [flatT_snoc]; simp [itRows]; omega
    · exact ⟨(h1.lt b hb).1, (h1.lt b hb).2⟩
    · rw [flatT_snoc] at hx'
      rcases pos j r' hr' with ⟨p1, p2⟩ | ⟨p1, p2⟩ | ⟨p1, p2⟩
      · obtain ⟨l', hl', hf'⟩ := old j r' p1
        have e : (itRows (flatT L ++ [l1, l2]))[j]? = some (.inl l') := itRows_at (by rw [List.getElem?_append_left (by omega)]; exact hl')
        rw [e] at hx'
        injection hx' with hx'
        subst hx'
        exact (hf'.grownT h2 htag).mono (fun b hb => ⟨hb.1, by have := hb.2; omega⟩)
      · have e : (itRows (flatT L ++ [l1, l2]))[j]? = some (.inl l1) := itRows_at (by rw [List.getElem?_append_right (by omega), show j - (flatT L).length = 0 by omega]; rfl)
        rw [e] at hx'
        injection hx' with hx'
        subst hx' p1
        exact inW _ _ hr1
      · have e : (itRows (flatT L ++ [l1, l2]))[j]? = some (.inl l2) := itRows_at (by rw [List.getElem?_append_right (by omega), show j - (flatT L).length = 1 by omega]; rfl)
        rw [e] at hx'
        injection hx' with hx'
        subst hx' p1
        exact inW _ _ hr2
    · have newO : ∀ {r3 r4 : Value} {l3 l4 : List Int}, FI (Bt W.heap.size M) w r3 l3 → FI (Bt M w.heap.size) w r4 l4 → r3.ownBlock = some b → r4.ownBlock ≠ some b := fun f3 f4 e3 e4 => by
        have g1 := (f3.2 b e3).2
        have g2 := (f4.2 b e4).1
        omega
      rcases pos i ra hra with ⟨a1, a2⟩ | ⟨a1, a2⟩ | ⟨a1, a2⟩ <;> rcases pos j rb hrb with ⟨c1, c2⟩ | ⟨c1, c2⟩ | ⟨c1, c2⟩
      · exact hds i j ra rb b hij a1 c1 hb1
      · obtain ⟨l', _, hf'⟩ := old i ra a1
        rw [c1]; exact newO hf' hr1 hb1
      · obtain ⟨l', _, hf'⟩ := old i ra a1
        rw [c1]; exact newO hf' hr2 hb1
      · obtain ⟨l', _, hf'⟩ := old j rb c1
        rw [a1] at hb1
        exact fun e => newO hf' hr1 e hb1
      · omega
      · rw [c1]; rw [a1] at hb1; exact hap b hb1
      · obtain ⟨l', _, hf'⟩ := old j rb c1
        rw [a1] at hb1
        exact fun e => newO hf' hr2 e hb1
      · rw [c1]; rw [a1] at hb1; exact fun e => hap b e hb1
      · omega
theorem wpList_appT {W : World} (hgd : o.guard = none) (s x : Operand)
    (ho : o.op = .call { callee := .builtin .append, args := #[s, x], argTypes := #[46, 46] })
    {v : Value} {L : List Trm} {r1 r2 : Value} {l1 l2 : List Int} (hs : a.eval s = v) {M : Nat} (hf : FT (Bt W.heap.size M) w v L) (hWM : W.heap.size ≤ M) (hM : M ≤ w.heap.size) (hb : Below W.heap.size W w)
    {H : Nat} (hx : a.eval x = .slice (some ⟨H, 0, none⟩) 1 1) (hc1 : w.cell? ⟨H, 0, none⟩ = some r1) (hc2 : w.cell? ⟨H, 1, none⟩ = some r2) (hr1 : FI (Bt M w.heap.size) w r1 l1) (hr2 : FI (Bt M w.heap.size) w r2 l2)
    (hap : ∀ b, r1.ownBlock = some b → r2.ownBlock ≠ some b) (hlen : L.length + 1 ≤ 33554432)
    (h : ∀ v' w', FT (New W w') w' v' (L ++ [(l1, l2)]) → Below W.heap.size W w' → w.grownBy w' v.ownBlock → wpList Tryz.prog ops Q rest (a.put o.dst v') w') : wpList Tryz.prog ops Q (o :: rest) a w :=
  wpList_plain hgd fun _ hK => wp_appT s x ho hs hf hWM hM hb hx hc1 hc2 hr1 hr2 hap hlen (fun v' w' h1 h2 h3 => hK _ _ (h v' w' h1 h2 h3))
theorem step_appT {W : World} {K : Act → World → Prop} {E : Prop} (hgd : o.guard = none) (s x : Operand)
    (ho : o.op = .call { callee := .builtin .append, args := #[s, x], argTypes := #[46, 46] })
    {v : Value} {L : List Trm} {r1 r2 : Value} {l1 l2 : List Int} (hs : a.eval s = v) {M : Nat} (hf : FT (Bt W.heap.size M) w v L) (hWM : W.heap.size ≤ M) (hM : M ≤ w.heap.size) (hb : Below W.heap.size W w)
    {H : Nat} (hx : a.eval x = .slice (some ⟨H, 0, none⟩) 1 1) (hc1 : w.cell? ⟨H, 0, none⟩ = some r1) (hc2 : w.cell? ⟨H, 1, none⟩ = some r2) (hr1 : FI (Bt M w.heap.size) w r1 l1) (hr2 : FI (Bt M w.heap.size) w r2 l2)
    (hap : ∀ b, r1.ownBlock = some b → r2.ownBlock ≠ some b) (hlen : L.length + 1 ≤ 33554432)
    (h : ∀ v' w', FT (New W w') w' v' (L ++ [(l1, l2)]) → Below W.heap.size W w' → w.grownBy w' v.ownBlock → K (a.put o.dst v') w') :
    if Region.wanted o (yielded ops a.tmps) = true then Oper.wp Tryz.prog o a w K Q else E := by
  have hw : Region.wanted o (yielded ops a.tmps) = true := by simp [Region.wanted, hgd]
  rw [if_pos hw]
  exact wp_appT s x ho hs hf hWM hM hb hx hc1 hc2 hr1 hr2 hap hlen h
end
end Go.Proofs.YtipjomdldjbenaaGreatDoor
