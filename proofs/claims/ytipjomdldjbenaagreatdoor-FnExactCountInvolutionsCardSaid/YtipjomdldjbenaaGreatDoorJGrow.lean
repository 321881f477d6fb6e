/- A region that draws its order, whose callees only make memory and give values that the world does not decide: one walk in the order of the text. No condition. -/
import Derived.Test.YtipjomdldjbenaaGreatDoorJGBase
namespace Go.Proofs.YtipjomdldjbenaaGreatDoor
open Go.RowKit
set_option maxRecDepth 20000

/-- The worlds that have only grown. -/
structure GW (w : World) where
  wd : World
  le : Below w.heap.size w wd
instance (w : World) : Nonempty (GW w) := ⟨⟨w, Below.refl _ _⟩⟩

theorem GW.cell {w : World} (x : GW w) {b o : Nat} {v : Value} (h : w.cell? ⟨b, o, none⟩ = some v) : x.wd.cell? ⟨b, o, none⟩ = some v :=
  (x.le.cell (p := ⟨b, o, none⟩) (World.block_lt_of_cell? w _ h)).trans h

theorem Calls.grow {f : FuncId} {args : Array Value} {w : World} {v : Value} (x : GW w)
    (h : Calls Tryz.prog f args x.wd fun e w' => e = .returned v ∧ Below x.wd.heap.size x.wd w') : Calls Tryz.prog f args x.wd fun e w'' => e = .returned v ∧ ∃ y : GW w, w'' = y.wd :=
  h.mono fun _ w' ⟨he, hb⟩ => ⟨he, ⟨w', Keeps.step x.le hb⟩, rfl⟩
theorem Calls.grow_of {f : FuncId} {args : Array Value} {w : World} {v v' : Value} (x : GW w)
    (h : Calls Tryz.prog f args x.wd fun e w' => e = .returned v ∧ Below x.wd.heap.size x.wd w') (hv : v = v') : Calls Tryz.prog f args x.wd fun e w'' => e = .returned v' ∧ ∃ y : GW w, w'' = y.wd := by
  subst hv; exact Calls.grow x h
theorem Calls.quietly {f : FuncId} {args : Array Value} {w : World} {v : Value}
    (h : Calls Tryz.prog f args w fun e w' => e = .returned v ∧ ∃ m, w' = w.drewN m) : Calls Tryz.prog f args w fun e w' => e = .returned v ∧ Below w.heap.size w w' :=
  h.mono fun _ _ ⟨he, hm⟩ => ⟨he, below_quiet hm⟩

theorem region_grow {id : Nat} {Q : Exit → Act → World → Prop} {a : Act} {w : World} {l : List Oper} (hm : Tryz.prog.follows .mixedOrders = true) (hB : Region.lexB .any l.toArray = true)
    (h : wpQuiet Tryz.prog l.toArray (fun w' => ∃ x : GW w, w' = x.wd) (fun a' => ∀ w', Below w.heap.size w w' → Q .normal a' w') l a) : (Code.region id l.toArray true).wp Tryz.prog Q a w := by
  refine wp_region_quiet (C := fun w' => ∃ x : GW w, w' = x.wd) hm hB ⟨⟨w.drew, (Below.refl _ w).drew⟩, rfl⟩ ?_
  have : (fun a' => ∀ w', Below w.heap.size w w' → Q .normal a' w') = (fun a' => ∀ w', (∃ x : GW w, w' = x.wd) → Q .normal a' w') := by
    funext a'
    refine propext ⟨fun h w' hx => ?_, fun h w' hb => h w' ⟨⟨w', hb⟩, rfl⟩⟩
    obtain ⟨x, rfl⟩ := hx
    exact h _ x.le
  rw [this] at h
  simpa using h

/-- What a guard reads, out of the slots' numbers alone. -/
def yieldD (ds : List (Option Nat)) (tmps : Array Value) (j : Nat) : Option Bool :=
  match ((ds[j]?).bind id).bind (tmps[·]?) with
  | some (.bool b) => some b
  | _ => none
theorem yieldD_eq {ds : List (Option Nat)} {l : List Oper} (h : l.map (·.dst) = ds) : yieldD ds = yielded l.toArray := by
  funext tmps j
  subst h
  unfold yieldD yielded
  simp only [List.getElem?_map, List.getElem?_toArray]
  cases l[j]? <;> rfl
def wpG (w : World) (ds : List (Option Nat)) (Q : Act → Prop) : List Oper → Act → Prop
  | [], a => Q a
  | o :: rest, a => if Region.wanted o (yieldD ds a.tmps) then o.quiet Tryz.prog a (fun w' => ∃ x : GW w, w' = x.wd) (wpG w ds Q rest) else wpG w ds Q rest (a.put o.dst undef)
theorem wpG_eq {w : World} {ds : List (Option Nat)} {l : List Oper} (h : l.map (·.dst) = ds) (Q : Act → Prop) : ∀ (rest : List Oper), wpG w ds Q rest = wpQuiet Tryz.prog l.toArray (fun w' => ∃ x : GW w, w' = x.wd) Q rest
  | [] => rfl
  | o :: rest => by
    funext a
    simp only [wpG, wpQuiet, yieldD_eq h, wpG_eq h Q rest]
theorem wpG_step {w : World} {ds : List (Option Nat)} {Q : Act → Prop} {a : Act} {o : Oper} {rest : List Oper}
    (h : ∀ K : Act → Prop, (∀ a, wpG w ds Q rest a → K a) → if Region.wanted o (yieldD ds a.tmps) then o.quiet Tryz.prog a (fun w' => ∃ x : GW w, w' = x.wd) K else K (a.put o.dst undef)) : wpG w ds Q (o :: rest) a :=
  h _ (fun _ h => h)
theorem region_growD {id : Nat} {Q : Exit → Act → World → Prop} {a : Act} {w : World} {l : List Oper} {ds : List (Option Nat)} (hm : Tryz.prog.follows .mixedOrders = true) (hB : Region.lexB .any l.toArray = true) (hds : l.map (·.dst) = ds)
    (h : wpG w ds (fun a' => ∀ w', Below w.heap.size w w' → Q .normal a' w') l a) : (Code.region id l.toArray true).wp Tryz.prog Q a w :=
  region_grow hm hB (by rw [wpG_eq hds] at h; exact h)
end Go.Proofs.YtipjomdldjbenaaGreatDoor
