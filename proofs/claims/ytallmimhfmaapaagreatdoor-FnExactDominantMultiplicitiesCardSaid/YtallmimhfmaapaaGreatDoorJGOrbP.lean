/- Two dominant weights of an orbit are equal. Plain: functions of numbers. No condition. -/
import Derived.Test.YtallmimhfmaapaaGreatDoorJGFin
namespace Go.Proofs.YtallmimhfmaapaaGreatDoor.Cox
section
variable {n : Nat} {c : Nat → Nat → Int}
theorem dot_nonneg : ∀ {n : Nat} {f g : Nat → Int}, (∀ k, k < n → 0 ≤ f k) → (∀ k, k < n → 0 ≤ g k) → 0 ≤ dotN f g n
 | 0, _, _, _, _ => Int.le_refl _
 | n + 1, f, g, hf, hg => by
  have h1 := dot_nonneg (n := n) (f := f) (g := g) (fun k hk => hf k (by omega)) (fun k hk => hg k (by omega))
  have h2 := Int.mul_nonneg (hf n (by omega)) (hg n (by omega))
  simp only [dotN]
  omega
end
end Go.Proofs.YtallmimhfmaapaaGreatDoor.Cox
namespace Go.Proofs.YtallmimhfmaapaaGreatDoor
open Go.RowKit
set_option maxRecDepth 20000
theorem zNP {α : Type} (a : α) : [a].Nodup := by simp
def actN (c : List (List Int)) : List Nat → List Int → List Int
 | [], v => v
 | i :: w, v => refl c i (actN c w v)
theorem zIi (c : List (List Int)) (v : List Int) (w' : List Nat) : ∀ w, actN c (w ++ w') v = actN c w (actN c w' v)
 | [] => rfl
 | i :: w => by simp only [List.cons_append, actN, zIi c v w' w]
section
variable {c T : List (List Int)}
theorem zOD (hT : Cor c T) (hc : CartanP c) {v : List Int} (h : Wt c T v) : ∀ {w : List Nat}, Cox.Lets c.length w → Wt c T (actN c w v) ∧ ∀ k, k < c.length → num (actN c w v) k = Cox.aW (ent c) w (num v) k
 | [], _ => ⟨h, fun _ _ => rfl⟩
 | i :: w, hw => by
  have hi : i < c.length := hw i (List.mem_cons_self ..)
  obtain ⟨h1, h2⟩ := zOD hT hc h (w := w) (fun j hj => hw j (List.mem_cons_of_mem _ hj))
  refine ⟨h1.step hT hc hi, fun k hk => ?_⟩
  show num (refl c i (actN c w v)) k = Cox.sW (ent c) i (Cox.aW (ent c) w (num v)) k
  rw [h1.exact hT hc hi hk]
  simp only [Cox.sW, h2 i hi, h2 k hk]
theorem zRk (hT : Cor c T) (hc : CartanP c) {v : List Int} (h : Wt c T v) {i : Nat} (hi : i < c.length) : refl c i (refl c i v) = v := by
 have h2 := h.step hT hc hi
 refine zCc (n := c.length) (by rw [zCS, zCS, h.len]) h.len fun k hk => ?_
 rw [h2.exact hT hc hi hk]
 have e : ∀ j, j < c.length → num (refl c i v) j = Cox.sW (ent c) i (num v) j := fun j hj => h.exact hT hc hi hj
 have := congrFun (Cox.sW_two hc.car hi (num v)) k
 rw [← this]
 simp only [Cox.sW, e i hi, e k hk]
def Rch (c : List (List Int)) (v x : List Int) : Prop := ∃ w, Cox.Lets c.length w ∧ x = actN c w v
theorem Rch.refl (c : List (List Int)) (v : List Int) : Rch c v v := ⟨[], fun _ h => by simp at h, rfl⟩
theorem Rch.step {v x : List Int} (h : Rch c v x) {i : Nat} (hi : i < c.length) : Rch c v (Proofs.YtallmimhfmaapaaGreatDoor.refl c i x) := by
 obtain ⟨w, hw, rfl⟩ := h
 exact ⟨i :: w, fun j hj => by
  rcases List.mem_cons.1 hj with rfl | hj
  ·exact hi
  ·exact hw j hj, rfl⟩
theorem Rch.trans {v x y : List Int} (h : Rch c v x) (k : Rch c x y) : Rch c v y := by
 obtain ⟨w, hw, rfl⟩ := h
 obtain ⟨w', hw', rfl⟩ := k
 exact ⟨w' ++ w, Cox.lets_app hw' hw, (zIi c v w w').symm⟩
theorem zJn (hT : Cor c T) (hc : CartanP c) {v : List Int} (h : Wt c T v) : ∀ {w : List Nat}, Cox.Lets c.length w → Rch c (actN c w v) v
 | [], _ => Rch.refl c v
 | i :: w, hw => by
  have hi : i < c.length := hw i (List.mem_cons_self ..)
  have hw' : Cox.Lets c.length w := fun j hj => hw j (List.mem_cons_of_mem _ hj)
  have h1 := (zOD hT hc h hw').1
  have h2 : Rch c (Proofs.YtallmimhfmaapaaGreatDoor.refl c i (actN c w v)) (actN c w v) := by
   have := (Rch.refl c (Proofs.YtallmimhfmaapaaGreatDoor.refl c i (actN c w v))).step hi
   rwa [zRk hT hc h1 hi] at this
  exact h2.trans (zJn hT hc h hw')
theorem Rch.symm (hT : Cor c T) (hc : CartanP c) {v x : List Int} (h : Wt c T v) (hx : Rch c v x) : Rch c x v := by
 obtain ⟨w, hw, rfl⟩ := hx
 exact zJn hT hc h hw
theorem zPR (hT : Cor c T) (hc : CartanP c) : ∀ (m : Nat) {v : List Int}, DomS c T v m → zAO (dmL c v) = none ∧ Rch c v (dmL c v)
 | m, v, h => by
  cases e : zAO v with
  | none => rw [zMy e]; exact ⟨e, Rch.refl c v⟩
  | some i =>
   obtain ⟨m', rfl, h3⟩ := h.back hT hc e
   have hi : i < c.length := by have := zDx e; rw [h.1.len] at this; exact this
   rw [zKx (zEY hT hc) h e]
   obtain ⟨h4, h5⟩ := zPR hT hc m' h3
   exact ⟨h4, ((Rch.refl c v).step hi).trans h5⟩
theorem zRP (hT : Cor c T) (hc : CartanP c) {v : List Int} (h : Wt c T v) : zAO (dmL c v) = none ∧ Rch c v (dmL c v) := zPR hT hc _ ⟨h, rfl⟩
end
section
variable {c T : List (List Int)}
theorem zEi {α : Type} [DecidableEq α] : ∀ {l m : List α}, l.Nodup → (∀ x ∈ l, x ∈ m) → l.length ≤ m.length
 | [], m, _, _ => Nat.zero_le _
 | a :: l, m, h, hs => by
  have h1 := List.nodup_cons.1 h
  have ha := hs a (List.mem_cons_self ..)
  have h2 := zEi (m := m.erase a) h1.2 (fun x hx => (List.mem_erase_of_ne (fun (e : x = a) => h1.1 (by rw [← e]; exact hx))).2 (hs x (List.mem_cons_of_mem _ hx)))
  rw [List.length_erase_of_mem ha] at h2
  have := List.length_pos_of_mem ha
  simp only [List.length_cons]
  omega
end
end Go.Proofs.YtallmimhfmaapaaGreatDoor
