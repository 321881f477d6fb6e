/- 'append' to a slice of numbers of the call's own: what was there, and then the other's numbers. Condition: at most 2^26 numbers. -/
import Derived.Test.YtkgjecabigdnoaaJFresh
namespace Go.Proofs.Ytkgjecabigdnoaa
open Go.RowKit
set_option maxRecDepth 20000

theorem FI.grow {W w w' : World} {v : Value} {l : List Int} (h : FI (New W w) w v l) (hb : Below w.heap.size w w') : FI (New W w') w' v l :=
  (h.below hb).mono fun b hb' => ⟨hb'.1, by have := hb'.2; have := hb.size; omega⟩

theorem FC.grow {W w w' : World} {e : TypeId} {sz n : Nat} {v : Value} {items : List It} (h : FC (New W w) e sz w v n items) (hb : Below w.heap.size w w') : FC (New W w') e sz w' v n items :=
  (h.below hb).mono fun b hb' => ⟨hb'.1, by have := hb'.2; have := hb.size; omega⟩

theorem FI.empty (W : World) (w : World) : FI (New W w) w (.slice none 0 0) [] := ⟨World.ownsRow_nil _ _ _ _, fun b hb => (by cases hb)⟩

section
variable {w : World} {ops : Array Oper} {rest : List Oper} {o : Oper} {a : Act} {Q : Exit → Act → World → Prop}

theorem run_append_bare (base : Nat) (t ty e : TypeId) (i : TypeInfo) (size : Nat) (ht : Try.prog.underlying t = some (.slice e)) (hi : Try.prog.info? e = some i)
    (v : Value) (n c : Nat) (xs : List Value) (hown : w.ownsRow base e size v n xs) :
    (Builtin.append_ #[t, t] ty #[v, .slice none 0 c]).run Try.prog w = .ok v w := by
  rcases hown.2 with ⟨rfl, rfl⟩ | ⟨g, cap, cur, rfl, _, _, hnc, _⟩
  · simp [Builtin.append_, run_underlying ht, sizeOf, typeInfo, hi, Builtin.lenOf, Builtin.firstCells]
  · simp [Builtin.append_, run_underlying ht, sizeOf, typeInfo, hi, Builtin.lenOf, Builtin.firstCells, hnc, storeCells]

/-- append(v, x...): v a row of numbers of the call's own, x whatever reads as numbers. -/
theorem wpList_app {S : Nat → Prop} {W : World} (hgd : o.guard = none) (s x : Operand)
    (ho : o.op = .call { callee := .builtin .append, args := #[s, x], argTypes := #[24, 24] })
    {v : Value} {l l2 : List Int} (hs : a.eval s = v) (hf : FI (New W w) w v l) (hb : Below W.heap.size W w)
    {sa : Option Addr} {m c : Nat} (hx : a.eval x = .slice sa m c) (hr : RI S w (.slice sa m c) l2) (hlen : l.length + l2.length ≤ 67108864)
    (h : ∀ v' w', FI (New W w') w' v' (l ++ l2) → Below W.heap.size W w' → w.grownBy w' v.ownBlock → wpList Try.prog ops Q rest (a.put o.dst v') w') : wpList Try.prog ops Q (o :: rest) a w := by
  obtain ⟨i0, hi, hz0, hz1, hz2⟩ := info_parts infoInt
  obtain ⟨hown, hS⟩ := hf
  obtain ⟨a', cap', hv, hcap, hcase⟩ := hr
  simp only [Value.slice.injEq] at hv
  obtain ⟨rfl, rfl, rfl⟩ := hv
  have hown' : w.ownsRow W.heap.size 3 1 v l.length (l.map (Value.int .i64)) := by
    refine ⟨hown.1, ?_⟩
    rcases hown.2 with h | ⟨g, cap, cur, hv, _, r⟩
    · exact .inl h
    · exact .inr ⟨g, cap, cur, hv, (hS g (by rw [hv]; rfl)).1, r⟩
  have fin : ∀ v' w', w'.ownsRow W.heap.size 3 1 v' (l.length + l2.length) (l.map (Value.int .i64) ++ l2.map (Value.int .i64)) → w.grownBy w' v.ownBlock → wpList Try.prog ops Q rest (a.put o.dst v') w' := by
    intro v' w' h1 h2
    have hb' : Below W.heap.size W w' := hb.grown h2 hb.size (fun k hk => (hS k hk).1)
    exact h v' w' (FI.of_row h1 (Nat.le_refl _) (by simp) (by simp)) hb' h2
  cases sa with
  | none =>
    have h0 : l2 = [] := by
      rcases hcase with h | ⟨b, o, ha, _⟩
      · exact h
      · cases ha
    subst h0
    have hrun := run_append_bare (w := w) W.heap.size 24 o.type 3 i0 1 Try.underlying24 hi v l.length c _ hown'
    have fin' := fin v w (by simpa using hown') (World.grownBy.refl _ _)
    clear fin h hb hS hown
    refine wpList_plain hgd fun K hK => ?_
    unfold Oper.wp
    rw [show ([] : List Int).length = 0 from rfl] at hx
    simp [execOp, ho, resolve, invoke, builtin, hs, hx, hrun, Result.andThen]
    exact hK _ _ fin'
  | some ad =>
    refine wpList_append_own w hgd s x 24 ho W.heap.size 3 i0 (.int .i64 0) 1 8 Try.underlying24 hi hz0 hz1 hz2 rfl (by decide) v l.length (l.map (Value.int .i64)) hs hown' ad l2.length c (l2.map (Value.int .i64)) hx (by simp) ?_ ?_ ?_ ?_ hb.size (fun v' w' h1 h2 _ => fin v' w' h1 h2)
    · intro j u hj
      rcases hcase with h | ⟨b, o, ha, _, _, hc⟩
      · subst h; simp at hj
      · simp only [Option.some.injEq] at ha
        subst ha
        rw [List.getElem?_map] at hj
        obtain ⟨x, hx1, hx2⟩ := Option.map_eq_some_iff.1 hj
        obtain ⟨r, h1, h2⟩ := hc j x hx1
        have hadd : (⟨b, o, none⟩ : Addr).add j = ⟨b, o + j, none⟩ := by unfold Addr.add; split <;> simp_all
        rw [hadd, h1, ← hx2]
        exact congrArg some h2
    · intro u hu
      obtain ⟨x, _, rfl⟩ := List.mem_map.1 hu
      rfl
    · unfold maxLen; omega
    · omega

/-- A new block of one number, as 'append(v, x)' lays it. -/
theorem RI.one (w : World) (x : Int) : RI Any (w.alloc (.cells #[.int .i64 x] 3)) (.slice (some ⟨w.heap.size, 0, none⟩) 1 1) [x] :=
  ⟨_, 1, rfl, ⟨Nat.le_refl _, by unfold maxLen; omega⟩, .inr ⟨_, 0, rfl, trivial, ⟨_, (0, 0), heap_alloc_new w _⟩, fun j y hj => by
    match j, hj with
    | 0, hj => simp at hj; subst hj; exact ⟨_, by go_simp, rfl⟩⟩⟩

/-- append(v, y) at the operation itself: y lies in a block of its own. -/
theorem wp_app1 {W : World} {K : Act → World → Prop} (s x : Operand)
    (ho : o.op = .call { callee := .builtin .append, args := #[s, x], argTypes := #[24, 24] })
    {v : Value} {l : List Int} {y : Int} (hs : a.eval s = v) (hf : FI (New W w) w v l) (hb : Below W.heap.size W w)
    {H : Nat} (hx : a.eval x = .slice (some ⟨H, 0, none⟩) 1 1) (hc : w.cell? ⟨H, 0, none⟩ = some (.int .i64 y)) (hlen : l.length + 1 ≤ 67108864)
    (h : ∀ v' w', FI (New W w') w' v' (l ++ [y]) → Below W.heap.size W w' → w.grownBy w' v.ownBlock → K (a.put o.dst v') w') : o.wp Try.prog a w K Q := by
  obtain ⟨i0, hi, hz0, hz1, hz2⟩ := info_parts infoInt
  obtain ⟨hown, hS⟩ := hf
  have hown' : w.ownsRow W.heap.size 3 1 v l.length (l.map (Value.int .i64)) := by
    refine ⟨hown.1, ?_⟩
    rcases hown.2 with h | ⟨g, cap, cur, hv, _, r⟩
    · exact .inl h
    · exact .inr ⟨g, cap, cur, hv, (hS g (by rw [hv]; rfl)).1, r⟩
  refine wp_append_own w s x 24 ho W.heap.size 3 i0 (.int .i64 0) 1 8 Try.underlying24 hi hz0 hz1 hz2 rfl (by decide) v l.length (l.map (Value.int .i64)) hs hown' ⟨H, 0, none⟩ 1 1 [.int .i64 y] hx rfl ?_ ?_ ?_ ?_ hb.size ?_
  · intro j u hj
    match j, hj with
    | 0, hj => simp at hj; subst hj; simpa [Addr.add] using hc
  · intro u hu; simp at hu; subst hu; rfl
  · unfold maxLen; omega
  · omega
  · intro v' w' h1 h2 _
    exact h v' w' (FI.of_row h1 (Nat.le_refl _) (by simp) (by simp)) (hb.grown h2 hb.size (fun k hk => (hS k hk).1)) h2

/-- .. at a step of a region that draws its order. -/
theorem step_app1 {W : World} {K : Act → World → Prop} {E : Prop} (hgd : o.guard = none) (s x : Operand)
    (ho : o.op = .call { callee := .builtin .append, args := #[s, x], argTypes := #[24, 24] })
    {v : Value} {l : List Int} {y : Int} (hs : a.eval s = v) (hf : FI (New W w) w v l) (hb : Below W.heap.size W w)
    {H : Nat} (hx : a.eval x = .slice (some ⟨H, 0, none⟩) 1 1) (hc : w.cell? ⟨H, 0, none⟩ = some (.int .i64 y)) (hlen : l.length + 1 ≤ 67108864)
    (h : ∀ v' w', FI (New W w') w' v' (l ++ [y]) → Below W.heap.size W w' → w.grownBy w' v.ownBlock → K (a.put o.dst v') w') :
    if Region.wanted o (yielded ops a.tmps) = true then Oper.wp Try.prog o a w K Q else E := by
  have hw : Region.wanted o (yielded ops a.tmps) = true := by simp [Region.wanted, hgd]
  rw [if_pos hw]
  exact wp_app1 s x ho hs hf hb hx hc hlen h

theorem cell_grown {w w' : World} {v : Value} {b o : Nat} {x : Value} {B : Nat} (hg : w.grownBy w' v.ownBlock) (h : w.cell? ⟨b, o, none⟩ = some x) (hb : b < B) (hv : ∀ k, v.ownBlock = some k → B ≤ k) : w'.cell? ⟨b, o, none⟩ = some x :=
  hg.cell h (fun e => by have := hv b e.symm; omega)
end
end Go.Proofs.Ytkgjecabigdnoaa
