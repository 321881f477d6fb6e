/- All elements of the groups with at most 200 elements, by their images of the vector of ones, as numbers. Plain lists. -/
import Derived.Test.YtipjomdldjbenaaJNmP
namespace Go.Proofs.Ytipjomdldjbenaa
open Go.RowKit
set_option maxRecDepth 20000

def dg64 (a k : Nat) : Nat := a / 64 ^ k % 64
def colN (c : List (List Int)) (i : Nat) : Nat := sumN (fun k => offN c k i * 64 ^ k) c.length
def rhoC (n : Nat) : Nat := sumN (fun k => 33 * 64 ^ k) n
def upC (c : List (List Int)) (a i : Nat) : Nat := a + (dg64 a i - 32) * colN c i - (dg64 a i - 32) * (2 * 64 ^ i)
/-- A child of an element: behind its least descent. -/
def kidB (c : List (List Int)) (a i : Nat) : Bool := Nat.ble 33 (dg64 a i) && (List.range i).all fun k => Nat.ble 33 (dg64 (upC c a i) k)
def kids (c : List (List Int)) (a : Nat) : List Nat := (List.range c.length).filterMap fun i => if kidB c a i = true then some (upC c a i) else none
def shellN (c : List (List Int)) : Nat → List Nat
  | 0 => [rhoC c.length]
  | m + 1 => (shellN c m).flatMap (kids c)
def shellsF (c : List (List Int)) : Nat → List Nat → List Nat
  | 0, _ => []
  | f + 1, S => S ++ shellsF c f (S.flatMap (kids c))
def elV (c : List (List Int)) : List Nat := shellsF c 25 [rhoC c.length]
def okUp (c : List (List Int)) (a i : Nat) : Bool := Nat.ble (dg64 a i) 32 || (List.range c.length).all fun k => Nat.beq (dg64 (upC c a i) k) (if k = i then 64 - dg64 a i else dg64 a k + (dg64 a i - 32) * offN c k i)
def chkE (c : List (List Int)) (V : List Nat) : Bool := Nat.ble 201 (szP c) || (Nat.beq V.length (szP c) && ((Nat.ble 25 (szP c) || nodupB (V.map fun a => a % 64 ^ c.length)) && V.all fun a => (List.range c.length).all fun i => okUp c a i))
abbrev chkEc (c : List (List Int)) : Bool := chkE c (elV c)
theorem chkE_s : (Fin.L1 ++ Fin.L2 ++ Fin.L3).all chkEc = true := by decide +kernel
theorem chkE_0 : ((Fin.L4.drop 0).take 37).all chkEc = true := by decide +kernel
theorem chkE_1 : ((Fin.L4.drop 37).take 37).all chkEc = true := by decide +kernel
theorem chkE_2 : ((Fin.L4.drop 74).take 37).all chkEc = true := by decide +kernel
theorem chkE_3 : ((Fin.L4.drop 111).take 37).all chkEc = true := by decide +kernel
theorem chkE_4 : ((Fin.L4.drop 148).take 37).all chkEc = true := by decide +kernel
theorem chkE_5 : ((Fin.L4.drop 185).take 37).all chkEc = true := by decide +kernel
theorem chkE_6 : (Fin.L4.drop 222).all chkEc = true := by decide +kernel
theorem chkE_all : (Fin.L1 ++ Fin.L2 ++ Fin.L3 ++ Fin.L4).all chkEc = true := by
  have h6 := chkE_6
  have h5 := all_cut2 chkE_5 h6 rfl
  have h4 := all_cut2 chkE_4 h5 rfl
  have h3 := all_cut2 chkE_3 h4 rfl
  have h2 := all_cut2 chkE_2 h3 rfl
  have h1 := all_cut2 chkE_1 h2 rfl
  have h0 := all_cut2 chkE_0 h1 rfl
  rw [List.drop_zero] at h0
  rw [List.all_append, chkE_s, h0]
  rfl
/-- What the check tells. -/
structure CodeOk (c : List (List Int)) : Prop where
  len : (elV c).length = szP c
  nd : szP c ≤ 24 → ((elV c).map fun a => a % 64 ^ c.length).Nodup
  up : ∀ a ∈ elV c, ∀ i, i < c.length → okUp c a i = true
theorem FinP.code {c : List (List Int)} (h : FinP c) (hs : szP c ≤ 200) : CodeOk c := by
  have := h.all chkE_all
  unfold chkEc chkE at this
  rw [Bool.or_eq_true, Bool.and_eq_true, Bool.and_eq_true] at this
  rcases this with h1 | ⟨h1, h2, h3⟩
  · have := Nat.le_of_ble_eq_true h1; omega
  · refine ⟨Nat.eq_of_beq_eq_true h1, fun h24 => ?_, fun a ha i hi => ?_⟩
    · rw [Bool.or_eq_true] at h2
      rcases h2 with h2 | h2
      · have := Nat.le_of_ble_eq_true h2; omega
      · exact nodupB_iff h2
    · exact List.all_eq_true.1 (List.all_eq_true.1 h3 a ha) i (List.mem_range.2 hi)
end Go.Proofs.Ytipjomdldjbenaa
