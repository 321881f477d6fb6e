/- Points of a diagram that are connected; parts. Plain lists. The points beside a point, by the program and by the reference. Condition: sizes up to 2^24. -/
import Derived.Test.YtdboknhjbjibjaaJGCart
/-! Points of a diagram that are connected; parts. Plain lists. -/
namespace Go.Proofs.Ytdboknhjbjibjaa
open Go.RowKit

/-- The points beside one, in ascending order. -/
def nbr (c : List (List Int)) (i : Nat) : List Nat := (List.range c.length).filter fun j => decide (j ≠ i) && decide (ent c i j ≠ 0)
/-- What has been seen, and the points found so far. -/
abbrev Sn := List Bool × List Nat
def bStep (st : Sn) (j : Nat) : Sn := if (st.1[j]?).getD true = true then st else (st.1.set j true, st.2 ++ [j])
def unseen (s : List Bool) : Nat := s.count false
/-- What stays of it all: n marks, the points are points, and each point found is one unseen less. -/
structure SnOk (n : Nat) (st : Sn) : Prop where
  len : st.1.length = n
  lt : ∀ j ∈ st.2, j < n
  cnt : st.2.length + unseen st.1 ≤ n
theorem SnOk.le {n : Nat} {st : Sn} (h : SnOk n st) : st.2.length ≤ n := by have := h.cnt; omega
/-- The search from the k-th point found on, f rounds at most. -/
def bfsP (c : List (List Int)) : Nat → Nat → Sn → Sn
  | 0, _, st => st
  | f + 1, k, st => match st.2[k]? with
    | none => st
    | some i => bfsP c f (k + 1) ((nbr c i).foldl bStep st)
def start (_n i : Nat) (s : List Bool) : Sn := (s.set i true, [i])
/-- All that is connected with a point, of what is not seen. -/
def foundP (c : List (List Int)) (i : Nat) (s : List Bool) : Sn := bfsP c (c.length + 1) 0 (start c.length i s)
/-- The part of a point, as the reference makes it. -/
def partS (c : List (List Int)) (i : Nat) : List Nat := (List.range c.length).filter fun k => ((foundP c i (List.replicate c.length false)).1[k]?).getD false
def partsTo (c : List (List Int)) (k : Nat) : List (List Nat) := (List.range k).filterMap fun i => if (partS c i).head? = some i then some (partS c i) else none
def partsS (c : List (List Int)) : List (List Nat) := partsTo c c.length
/-- Ascending order. -/
def insN (x : Nat) : List Nat → List Nat
  | [] => [x]
  | y :: l => if x ≤ y then x :: y :: l else y :: insN x l
def srtN : List Nat → List Nat
  | [] => []
  | x :: l => insN x (srtN l)
/-- The parts, as the program makes them. -/
def partsStep (c : List (List Int)) (st : List Bool × List (List Nat)) (i : Nat) : List Bool × List (List Nat) :=
  if (st.1[i]?).getD true = true then st else ((foundP c i st.1).1, st.2 ++ [srtN (foundP c i st.1).2])
def partsP (c : List (List Int)) : List (List Nat) := ((List.range c.length).foldl (partsStep c) (List.replicate c.length false, [])).2

end Go.Proofs.Ytdboknhjbjibjaa

/-! The points beside a point, by the program and by the reference. Condition: sizes up to 2^24. -/
namespace Go.Proofs.Ytdboknhjbjibjaa
open Go.RowKit
set_option maxRecDepth 20000

abbrev iL (l : List Nat) : List Int := l.map fun (j : Nat) => (j : Int)
end Go.Proofs.Ytdboknhjbjibjaa
