/- 'append' to a slice of numbers whose block lies beyond a bound. Condition: at most 2^26 numbers. -/
import Derived.Test.YtkgjecabigdnoaaJApp
namespace Go.Proofs.Ytkgjecabigdnoaa
open Go.RowKit
set_option maxRecDepth 20000
section
variable {w : World} {ops : Array Oper} {rest : List Oper} {o : Oper} {a : Act} {Q : Exit → Act → World → Prop}

theorem FI.of_rowB {w' : World} {B : Nat} {v : Value} {l : List Int} {n : Nat} {xs : List Value} (h : w'.ownsRow B 3 1 v n xs) (hn : n = l.length) (hx : xs = l.map (Value.int .i64)) : FI (Bt B w'.heap.size) w' v l := by
  subst hn
  subst hx
  refine ⟨own_base h (Nat.zero_le _), fun b hb => ?_⟩
  obtain ⟨h1, h2⟩ := h.lt b hb
  exact ⟨h1, h2⟩

/-- append(v, x...): v a row of numbers of the call's own, x whatever reads as numbers. -/
theorem wpList_appB {S : Nat → Prop} {B : Nat} (hgd : o.guard = none) (s x : Operand)
    (ho : o.op = .call { callee := .builtin .append, args := #[s, x], argTypes := #[24, 24] })
    {v : Value} {l l2 : List Int} (hs : a.eval s = v) (hf : FI (Bt B w.heap.size) w v l) (hB : B ≤ w.heap.size)
    {sa : Option Addr} {m c : Nat} (hx : a.eval x = .slice sa m c) (hr : RI S w (.slice sa m c) l2) (hlen : l.length + l2.length ≤ 67108864)
    (h : ∀ v' w', FI (Bt B w'.heap.size) w' v' (l ++ l2) → Below B w w' → w.grownBy w' v.ownBlock → wpList Try.prog ops Q rest (a.put o.dst v') w') : wpList Try.prog ops Q (o :: rest) a w := by
  obtain ⟨i0, hi, hz0, hz1, hz2⟩ := info_parts infoInt
  obtain ⟨hown, hS⟩ := hf
  obtain ⟨a', cap', hv, hcap, hcase⟩ := hr
  simp only [Value.slice.injEq] at hv
  obtain ⟨rfl, rfl, rfl⟩ := hv
  have hown' : w.ownsRow B 3 1 v l.length (l.map (Value.int .i64)) := by
    refine ⟨hown.1, ?_⟩
    rcases hown.2 with h | ⟨g, cap, cur, hv, _, r⟩
    · exact .inl h
    · exact .inr ⟨g, cap, cur, hv, (hS g (by rw [hv]; rfl)).1, r⟩
  have fin : ∀ v' w', w'.ownsRow B 3 1 v' (l.length + l2.length) (l.map (Value.int .i64) ++ l2.map (Value.int .i64)) → w.grownBy w' v.ownBlock → wpList Try.prog ops Q rest (a.put o.dst v') w' := by
    intro v' w' h1 h2
    have hb' : Below B w w' := (Below.refl B w).grown h2 hB (fun k hk => (hS k hk).1)
    exact h v' w' (FI.of_rowB h1 (by simp) (by simp)) hb' h2
  cases sa with
  | none =>
    have h0 : l2 = [] := by
      rcases hcase with h | ⟨b, o, ha, _⟩
      · exact h
      · cases ha
    subst h0
    have hrun := run_append_bare (w := w) B 24 o.type 3 i0 1 Try.underlying24 hi v l.length c _ hown'
    have fin' := fin v w (by simpa using hown') (World.grownBy.refl _ _)
    clear fin h hS hown
    refine wpList_plain hgd fun K hK => ?_
    unfold Oper.wp
    rw [show ([] : List Int).length = 0 from rfl] at hx
    simp [execOp, ho, resolve, invoke, builtin, hs, hx, hrun, Result.andThen]
    exact hK _ _ fin'
  | some ad =>
    refine wpList_append_own w hgd s x 24 ho B 3 i0 (.int .i64 0) 1 8 Try.underlying24 hi hz0 hz1 hz2 rfl (by decide) v l.length (l.map (Value.int .i64)) hs hown' ad l2.length c (l2.map (Value.int .i64)) hx (by simp) ?_ ?_ ?_ ?_ hB (fun v' w' h1 h2 _ => fin v' w' h1 h2)
    · intro j u hj
      rcases hcase with h | ⟨b, o, ha, _, _, hc⟩
      · subst h; simp at hj
      · simp only [Option.some.injEq] at ha
        subst ha
        rw [List.getElem?_map] at hj
        obtain ⟨x, hx1, hx2⟩ := Option.map_eq_some_iff.1 hj
        obtain ⟨r, h1, h2⟩ := hc j x hx1
        have hadd : (⟨b, o, none⟩ : Addr).add j = ⟨b, o + j, none⟩ := by unfold Addr.add; split <;> simp_all
        rw [hadd, h1, ← hx2]
        exact congrArg some h2
    · intro u hu
      obtain ⟨x, _, rfl⟩ := List.mem_map.1 hu
      rfl
    · unfold maxLen; omega
    · omega

end
end Go.Proofs.Ytkgjecabigdnoaa
