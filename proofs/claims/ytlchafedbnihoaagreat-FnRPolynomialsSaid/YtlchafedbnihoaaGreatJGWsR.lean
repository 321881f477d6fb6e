/- Rows of values of the call's own: a literal of one, appending none, appending all of another's. No condition. -/
import Derived.Test.YtlchafedbnihoaaGreatJGInV
namespace Go.Proofs.YtlchafedbnihoaaGreat
open Go.RowKit
set_option maxRecDepth 20000
theorem HSx.newV1 {A:Nat→Prop} {w0 w w1:World} {Ps:List zAb} (h:HSx A w0 w Ps) (r:Value) (hw:w1=w.alloc (.cells #[r] 25)):HSx A w0 w1 (Ps++[aV 25 (.slice (some ⟨w.heap.size,0,none⟩) 1 1) [r]]):=by
 subst hw;refine h.add ((Below.refl _ _).alloc (zQd _) _) (st_V _ _ _) (F:=fun b=>b=w.heap.size) ⟨?_,fun b hb=>?_⟩ (fun b hb=>by subst hb; exact ⟨zQd _,by simp⟩)
 ·exact zCM (World.ownsRow_lit (base:=w.heap.size) (e:=25) (size:=1) w #[r] 1 (zQd _) (by unfold maxLen; omega) rfl) (Nat.zero_le _)
 ·simp only [Value.ownBlock,Option.some.injEq] at hb; exact hb.symm
section
variable {w:World} {ops:Array Oper} {rest:List Oper} {o:Oper} {a:Act} {Q:Exit→Act→World→Prop}
end
end Go.Proofs.YtlchafedbnihoaaGreat
