/- Rows of values of the call's own: a literal of one, appending none, appending all of another's. No condition. -/
import Derived.Test.YtipjomdldjbenaaGreatDoorJGInV
namespace Go.Proofs.YtipjomdldjbenaaGreatDoor
open Go.RowKit
set_option maxRecDepth 20000

theorem HSx.newV1 {A : Nat → Prop} {w0 w w1 : World} {Ps : List Thing} (h : HSx A w0 w Ps) (r : Value) (hw : w1 = w.alloc (.cells #[r] 28)) : HSx A w0 w1 (Ps ++ [aV 28 (.slice (some ⟨w.heap.size, 0, none⟩) 1 1) [r]]) := by
  subst hw
  refine h.add ((Below.refl _ _).alloc (Nat.le_refl _) _) (st_V _ _ _) (F := fun b => b = w.heap.size) ⟨?_, fun b hb => ?_⟩ (fun b hb => by subst hb; exact ⟨Nat.le_refl _, by simp⟩)
  · exact own_base (World.ownsRow_lit (base := w.heap.size) (e := 28) (size := 1) w #[r] 1 (Nat.le_refl _) (by unfold maxLen; omega) rfl) (Nat.zero_le _)
  · simp only [Value.ownBlock, Option.some.injEq] at hb; exact hb.symm

section
variable {w : World} {ops : Array Oper} {rest : List Oper} {o : Oper} {a : Act} {Q : Exit → Act → World → Prop}
theorem wpList_hsVnil {A : Nat → Prop} {W : World} {Ps : List Thing} (hgd : o.guard = none) (s x : Operand) {t e : TypeId} {z : Value} {bytes : Nat} (ht : Tryz.prog.underlying t = some (.slice e))
    (hinfo : (Tryz.prog.info? e).map (fun i => (i.zero, i.size, i.bytes)) = some (some z, 1, bytes))
    (ho : o.op = .call { callee := .builtin .append, args := #[s, x], argTypes := #[t, t] })
    {v : Value} {vs : List Value} {c : Nat} (hs : a.eval s = v) (h : HSx A W w Ps) (i : Nat) (hi : Ps[i]? = some (aV e v vs)) (hx : a.eval x = .slice none 0 c)
    (k : wpList Tryz.prog ops Q rest (a.put o.dst v) w) : wpList Tryz.prog ops Q (o :: rest) a w := by
  obtain ⟨i0, hi0, hz0, hz1, hz2⟩ := info_parts hinfo
  obtain ⟨F0, hf, _⟩ := HSx.get h i hi
  have hrun := run_append_bare (w := w) 0 t o.type e i0 1 ht hi0 v vs.length c vs hf.1
  refine wpList_plain hgd fun K hK => ?_
  unfold Oper.wp
  simp [execOp, ho, resolve, invoke, builtin, hs, hx, hrun, Result.andThen]
  exact hK _ _ k
end
end Go.Proofs.YtipjomdldjbenaaGreatDoor
