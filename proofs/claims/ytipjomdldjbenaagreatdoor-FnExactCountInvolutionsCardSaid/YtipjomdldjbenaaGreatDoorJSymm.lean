/- Numbers that make a matrix of finite type symmetric: the program's and the reference's. Plain lists; all matrices checked. -/
import Derived.Test.YtipjomdldjbenaaGreatDoorJGPart
import Derived.Test.YtipjomdldjbenaaGreatDoorJGCart
import Derived.Test.YtipjomdldjbenaaGreatDoorJGFin
namespace Go.Proofs.YtipjomdldjbenaaGreatDoor
open Go.RowKit
set_option maxRecDepth 20000

theorem fold_none {σ α : Type} {f : Option σ → α → Option σ} (hn : ∀ x, f none x = none) : ∀ L : List α, L.foldl f none = none
  | [] => rfl
  | x :: L => by rw [List.foldl_cons, hn]; exact fold_none hn L
/-- What a loop whose steps may fail passes through, if it does not fail. -/
theorem fold_some {σ α : Type} {f : Option σ → α → Option σ} (hn : ∀ x, f none x = none) {L : List α} {s0 : Option σ} (h : (L.foldl f s0).isSome = true) {k : Nat} {x : α} (hx : L[k]? = some x) :
    ∃ st st', (L.take k).foldl f s0 = some st ∧ f (some st) x = some st' ∧ (L.take (k + 1)).foldl f s0 = some st' := by
  have e : L.foldl f s0 = (L.drop (k + 1)).foldl f (f ((L.take k).foldl f s0) x) := by
    conv => lhs; rw [← List.take_append_drop k L, List.foldl_append, drop_step hx, List.foldl_cons]
  have e2 : (L.take (k + 1)).foldl f s0 = f ((L.take k).foldl f s0) x := by rw [take_step hx, List.foldl_append]; rfl
  cases e1 : (L.take k).foldl f s0 with
  | none => rw [e1, hn] at e; rw [e, fold_none hn] at h; cases h
  | some st =>
    cases e3 : f (some st) x with
    | none => rw [e1, e3] at e; rw [e, fold_none hn] at h; cases h
    | some st' => exact ⟨st, st', rfl, e3, by rw [e2, e1, e3]⟩

/-- A quotient with all that is asked of it. -/
def quoP (a b d : Int) : Option Int := if d ≠ 0 ∧ (-1000000 ≤ a * b ∧ a * b ≤ 1000000) then some ((a * b).tdiv d) else none
abbrev Gs := List Int × List Nat
def gStep (c : List (List Int)) (i : Nat) (st : Option Gs) (j : Nat) : Option Gs :=
  match st with
  | none => none
  | some (out, q) => if num out j = 0 then
      match quoP (num out i) (ent c i j) (ent c j i) with
      | none => none
      | some x => if q.length < 5 then some (out.set j x, q ++ [j]) else none
    else some (out, q)
def gBfs (c : List (List Int)) : Nat → Nat → Gs → Option Gs
  | 0, k, st => if st.2.length ≤ k then some st else none
  | f + 1, k, st => match st.2[k]? with
    | none => some st
    | some i => match (nbr c i).foldl (gStep c i) (some st) with
      | none => none
      | some st' => gBfs c f (k + 1) st'
/-- The greatest common divisor, f rounds at most. -/
def gcdF : Nat → Int → Int → Option Int
  | 0, a, b => if b = 0 then some a else none
  | f + 1, a, b => if b = 0 then some a else gcdF f b (a.tmod b)
def gcdP (a b : Int) : Option Int := if -1000000 ≤ a ∧ a ≤ 1000000 ∧ -1000000 ≤ b ∧ b ≤ 1000000 then gcdF 40 a b else none
def cStep (out : List Int) (g : Option Int) (i : Nat) : Option Int := match g with
  | none => none
  | some g => gcdP (num out i) g
def dStep (g : Int) (o : Option (List Int)) (i : Nat) : Option (List Int) := match o with
  | none => none
  | some o => match quoP (num o i) 1 g with
    | none => none
    | some x => some (o.set i x)
def symPart (c : List (List Int)) (o : Option (List Int)) (part : List Nat) : Option (List Int) := match o with
  | none => none
  | some out => match part.head? with
    | none => none
    | some p => match gBfs c 6 0 (out.set p 36, [p]) with
      | none => none
      | some st => match part.foldl (cStep st.1) (some 0) with
        | none => none
        | some g => part.foldl (dStep g) (some st.1)
def symI (c : List (List Int)) : Option (List Int) := (partsP c).foldl (symPart c) (some (List.replicate c.length 0))

/-- The reference's numbers: one try of a pair. -/
def pStep (c : List (List Int)) (i : Nat) (o : Option (List Int)) (k : Nat) : Option (List Int) := match o with
  | none => none
  | some out => if 0 < num out i ∧ num out k = 0 ∧ i ≠ k ∧ ent c i k ≠ 0 then
      match quoP (num out i) (ent c i k) (ent c k i) with
      | none => none
      | some x => if (num out i * ent c i k).tmod (ent c k i) = 0 then some (out.set k x) else some out
    else some out
def rStep (c : List (List Int)) (o : Option (List Int)) (i : Nat) : Option (List Int) := (List.range c.length).foldl (pStep c i) o
def nStep (c : List (List Int)) (o : Option (List Int)) (_ : Nat) : Option (List Int) := (List.range c.length).foldl (rStep c) o
def scaleS (c : List (List Int)) (p : List Nat) (d : Int) : Option (List Int) := match p.head? with
  | none => none
  | some p0 => p.foldl (nStep c) (some ((List.replicate c.length 0).set p0 d))
def fineS (l : List Int) (p : List Nat) : Bool := p.all fun i => decide (0 < num l i)
def layS (l out : List Int) (p : List Nat) : List Int := p.foldl (fun o i => o.set i (num l i)) out
/-- The tries with d, d + 1, .. up to 3. -/
def tryS (c : List (List Int)) (p : List Nat) (out : List Int) : Nat → Int → Option (List Int)
  | 0, _ => some out
  | f + 1, d => match scaleS c p d with
    | none => none
    | some l => if fineS l p = true then some (layS l out p) else tryS c p out f (d + 1)
def symPartS (c : List (List Int)) (o : Option (List Int)) (p : List Nat) : Option (List Int) := match o with
  | none => none
  | some out => tryS c p out 3 1
def symS (c : List (List Int)) : Option (List Int) := (partsS c).foldl (symPartS c) (some (List.replicate c.length 0))
def chkSym (c : List (List Int)) : Bool := (symI c).isSome && decide (symI c = symS c) && decide (((symI c).getD []).length = c.length) && ((symI c).getD []).all fun x => decide (0 < x ∧ x ≤ 1000)
theorem chkSym_all : (Fin.L1 ++ Fin.L2 ++ Fin.L3 ++ Fin.L4).all chkSym = true := by decide +kernel
def symP (c : List (List Int)) : List Int := (symI c).getD []
theorem FinP.sym {c : List (List Int)} (h : FinP c) : symI c = some (symP c) ∧ symS c = some (symP c) ∧ (symP c).length = c.length ∧ ∀ x ∈ symP c, 0 < x ∧ x ≤ 1000 := by
  have := h.all chkSym_all
  unfold chkSym at this
  simp only [Bool.and_eq_true, decide_eq_true_eq, List.all_eq_true] at this
  obtain ⟨⟨⟨h1, h2⟩, h3⟩, h4⟩ := this
  have e : symI c = some (symP c) := by
    unfold symP
    cases e : symI c with
    | none => rw [e] at h1; cases h1
    | some x => rfl
  exact ⟨e, by rw [← h2]; exact e, h3, h4⟩
end Go.Proofs.YtipjomdldjbenaaGreatDoor
