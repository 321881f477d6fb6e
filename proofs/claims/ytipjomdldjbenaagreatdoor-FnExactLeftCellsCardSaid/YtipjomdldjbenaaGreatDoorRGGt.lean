/- A region that draws its order, whose callees only make memory and give values that the world does not decide: one walk in the order of the text. No condition. Lists of vectors in descending order. Plain lists. -/
import Derived.Test.YtipjomdldjbenaaGreatDoorRGBase
namespace Go.Proofs.YtipjomdldjbenaaGreatDoor
open Go.RowKit
set_option maxRecDepth 20000
structure GW (w : World) where
 wd : World
 le : Below w.heap.size w wd
instance (w : World) : Nonempty (GW w) := ⟨⟨w, Below.refl _ _⟩⟩
theorem GW.cell {w : World} (x : GW w) {b o : Nat} {v : Value} (h : w.cell? ⟨b, o, none⟩ = some v) : x.wd.cell? ⟨b, o, none⟩ = some v :=
 (x.le.cell (p := ⟨b, o, none⟩) (World.block_lt_of_cell? w _ h)).trans h
theorem Calls.grow {f : FuncId} {args : Array Value} {w : World} {v : Value} (x : GW w)
  (h : Calls Tryz.prog f args x.wd fun e w' => e = .returned v ∧ Below x.wd.heap.size x.wd w') : Calls Tryz.prog f args x.wd fun e w'' => e = .returned v ∧ ∃ y : GW w, w'' = y.wd :=
 h.mono fun _ w' ⟨he, hb⟩ => ⟨he, ⟨w', Keeps.step x.le hb⟩, rfl⟩
theorem Calls.grow_of {f : FuncId} {args : Array Value} {w : World} {v v' : Value} (x : GW w)
  (h : Calls Tryz.prog f args x.wd fun e w' => e = .returned v ∧ Below x.wd.heap.size x.wd w') (hv : v = v') : Calls Tryz.prog f args x.wd fun e w'' => e = .returned v' ∧ ∃ y : GW w, w'' = y.wd := by
 subst hv; exact Calls.grow x h
theorem Calls.quietly {f : FuncId} {args : Array Value} {w : World} {v : Value}
  (h : Calls Tryz.prog f args w fun e w' => e = .returned v ∧ ∃ m, w' = w.drewN m) : Calls Tryz.prog f args w fun e w' => e = .returned v ∧ Below w.heap.size w w' :=
 h.mono fun _ _ ⟨he, hm⟩ => ⟨he, below_quiet hm⟩
theorem region_grow {id : Nat} {Q : Exit → Act → World → Prop} {a : Act} {w : World} {l : List Oper} (hm : Tryz.prog.follows .mixedOrders = true) (hB : Region.lexB .any l.toArray = true)
  (h : wpQuiet Tryz.prog l.toArray (fun w' => ∃ x : GW w, w' = x.wd) (fun a' => ∀ w', Below w.heap.size w w' → Q .normal a' w') l a) : (Code.region id l.toArray true).wp Tryz.prog Q a w := by
 refine wp_region_quiet (C := fun w' => ∃ x : GW w, w' = x.wd) hm hB ⟨⟨w.drew, (Below.refl _ w).drew⟩, rfl⟩ ?_
 have : (fun a' => ∀ w', Below w.heap.size w w' → Q .normal a' w') = (fun a' => ∀ w', (∃ x : GW w, w' = x.wd) → Q .normal a' w') := by
  funext a'
  refine propext ⟨fun h w' hx => ?_, fun h w' hb => h w' ⟨⟨w', hb⟩, rfl⟩⟩
  obtain ⟨x, rfl⟩ := hx
  exact h _ x.le
 rw [this] at h
 simpa using h
def gtL : List Int → List Int → Bool
 | x :: xs, y :: ys => if x = y then gtL xs ys else decide (y < x)
 | _, _ => false
def putV (v : List Int) : List (List Int) → List (List Int)
 | [] => [v]
 | x :: l => if x = v then x :: l else if gtL v x = true then v :: x :: l else x :: putV v l
end Go.Proofs.YtipjomdldjbenaaGreatDoor
