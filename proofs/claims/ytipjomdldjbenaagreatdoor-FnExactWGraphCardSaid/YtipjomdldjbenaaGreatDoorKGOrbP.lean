/- Two dominant weights of an orbit are equal. Plain: functions of numbers. No condition. Orbits of weights: the program's search from a weight and the reference's from its dominant one find the same weights. Plain lists. -/
import Derived.Test.YtipjomdldjbenaaGreatDoorKGCox
import Derived.Test.YtipjomdldjbenaaGreatDoorKGFin
/-! Two dominant weights of an orbit are equal. Plain: functions of numbers. No condition. -/
namespace Go.Proofs.YtipjomdldjbenaaGreatDoor.Cox

section
variable {n : Nat} {c : Nat → Nat → Int}
theorem sW_self (h : Car n c) {i : Nat} (hi : i < n) (m : Nat → Int) : sW c i m i = -(m i) := by
  simp only [sW, h.diag i hi]; omega
end
end Go.Proofs.YtipjomdldjbenaaGreatDoor.Cox

/-! Orbits of weights: the program's search from a weight and the reference's from its dominant one find the same weights. Plain lists. -/
namespace Go.Proofs.YtipjomdldjbenaaGreatDoor
open Go.RowKit
set_option maxRecDepth 20000

theorem nd_one {α : Type} (a : α) : [a].Nodup := by simp
/-- Reflections one after another, the last one first. -/
def actN (c : List (List Int)) : List Nat → List Int → List Int
  | [], v => v
  | i :: w, v => refl c i (actN c w v)
theorem actN_app (c : List (List Int)) (v : List Int) (w' : List Nat) : ∀ w, actN c (w ++ w') v = actN c w (actN c w' v)
  | [] => rfl
  | i :: w => by simp only [List.cons_append, actN, actN_app c v w' w]
section
variable {c T : List (List Int)}
theorem wt_act (hT : Cor c T) (hc : CartanP c) {v : List Int} (h : Wt c T v) : ∀ {w : List Nat}, Cox.Lets c.length w → Wt c T (actN c w v) ∧ ∀ k, k < c.length → num (actN c w v) k = Cox.aW (ent c) w (num v) k
  | [], _ => ⟨h, fun _ _ => rfl⟩
  | i :: w, hw => by
    have hi : i < c.length := hw i (List.mem_cons_self ..)
    obtain ⟨h1, h2⟩ := wt_act hT hc h (w := w) (fun j hj => hw j (List.mem_cons_of_mem _ hj))
    refine ⟨h1.step hT hc hi, fun k hk => ?_⟩
    show num (refl c i (actN c w v)) k = Cox.sW (ent c) i (Cox.aW (ent c) w (num v)) k
    rw [h1.exact hT hc hi hk]
    simp only [Cox.sW, h2 i hi, h2 k hk]
theorem wt_two (hT : Cor c T) (hc : CartanP c) {v : List Int} (h : Wt c T v) {i : Nat} (hi : i < c.length) : refl c i (refl c i v) = v := by
  have h2 := h.step hT hc hi
  refine num_ext (n := c.length) (by rw [refl_length, refl_length, h.len]) h.len fun k hk => ?_
  rw [h2.exact hT hc hi hk]
  have e : ∀ j, j < c.length → num (refl c i v) j = Cox.sW (ent c) i (num v) j := fun j hj => h.exact hT hc hi hj
  have := congrFun (Cox.sW_two hc.car hi (num v)) k
  rw [← this]
  simp only [Cox.sW, e i hi, e k hk]
/-- w is an image of v. -/
def Rch (c : List (List Int)) (v x : List Int) : Prop := ∃ w, Cox.Lets c.length w ∧ x = actN c w v
theorem Rch.refl (c : List (List Int)) (v : List Int) : Rch c v v := ⟨[], fun _ h => by simp at h, rfl⟩
theorem Rch.step {v x : List Int} (h : Rch c v x) {i : Nat} (hi : i < c.length) : Rch c v (Proofs.YtipjomdldjbenaaGreatDoor.refl c i x) := by
  obtain ⟨w, hw, rfl⟩ := h
  exact ⟨i :: w, fun j hj => by
    rcases List.mem_cons.1 hj with rfl | hj
    · exact hi
    · exact hw j hj, rfl⟩
theorem Rch.wt (hT : Cor c T) (hc : CartanP c) {v x : List Int} (h : Wt c T v) (hx : Rch c v x) : Wt c T x := by
  obtain ⟨w, hw, rfl⟩ := hx
  exact (wt_act hT hc h hw).1
theorem Rch.trans {v x y : List Int} (h : Rch c v x) (k : Rch c x y) : Rch c v y := by
  obtain ⟨w, hw, rfl⟩ := h
  obtain ⟨w', hw', rfl⟩ := k
  exact ⟨w' ++ w, Cox.lets_app hw' hw, (actN_app c v w w').symm⟩
theorem rch_back (hT : Cor c T) (hc : CartanP c) {v : List Int} (h : Wt c T v) : ∀ {w : List Nat}, Cox.Lets c.length w → Rch c (actN c w v) v
  | [], _ => Rch.refl c v
  | i :: w, hw => by
    have hi : i < c.length := hw i (List.mem_cons_self ..)
    have hw' : Cox.Lets c.length w := fun j hj => hw j (List.mem_cons_of_mem _ hj)
    have h1 := (wt_act hT hc h hw').1
    have h2 : Rch c (Proofs.YtipjomdldjbenaaGreatDoor.refl c i (actN c w v)) (actN c w v) := by
      have := (Rch.refl c (Proofs.YtipjomdldjbenaaGreatDoor.refl c i (actN c w v))).step hi
      rwa [wt_two hT hc h1 hi] at this
    exact h2.trans (rch_back hT hc h hw')
theorem Rch.symm (hT : Cor c T) (hc : CartanP c) {v x : List Int} (h : Wt c T v) (hx : Rch c v x) : Rch c x v := by
  obtain ⟨w, hw, rfl⟩ := hx
  exact rch_back hT hc h hw
end

/-! The two searches. -/
section
variable {c T : List (List Int)}
/-- The program: one more reflection of u. -/
def oStep (c : List (List Int)) (u : List Int) (out : List (List Int)) (i : Nat) : List (List Int) := if refl c i u ∈ out then out else out ++ [refl c i u]
def oRow (c : List (List Int)) (u : List Int) (out : List (List Int)) : List (List Int) := (List.range c.length).foldl (oStep c u) out
structure OOk (c : List (List Int)) (v : List Int) (k : Nat) (out : List (List Int)) : Prop where
  nd : out.Nodup
  rch : ∀ x ∈ out, Rch c v x
  self : v ∈ out
  done : ∀ (j : Nat) (u : List Int), j < k → out[j]? = some u → ∀ i, i < c.length → refl c i u ∈ out
theorem oStep_pre (c : List (List Int)) (u : List Int) (out : List (List Int)) (i : Nat) : ∃ l, oStep c u out i = out ++ l ∧ l.length ≤ 1 := by
  unfold oStep
  split
  · exact ⟨[], by simp, by simp⟩
  · exact ⟨_, rfl, by simp⟩
theorem oFold_pre (c : List (List Int)) (u : List Int) : ∀ (L : List Nat) (out : List (List Int)), ∃ l, L.foldl (oStep c u) out = out ++ l ∧ l.length ≤ L.length
  | [], out => ⟨[], by simp, by simp⟩
  | i :: L, out => by
    obtain ⟨l1, h1, k1⟩ := oStep_pre c u out i
    obtain ⟨l2, h2, k2⟩ := oFold_pre c u L (oStep c u out i)
    exact ⟨l1 ++ l2, by rw [List.foldl_cons, h2, h1, List.append_assoc], by simp; omega⟩
theorem oRow_pre (c : List (List Int)) (u : List Int) (out : List (List Int)) : ∃ l, oRow c u out = out ++ l ∧ l.length ≤ c.length := by
  obtain ⟨l, h, k⟩ := oFold_pre c u (List.range c.length) out
  exact ⟨l, h, by simpa using k⟩
theorem mem_oStep {u x : List Int} {out : List (List Int)} {i : Nat} : x ∈ oStep c u out i ↔ x ∈ out ∨ x = refl c i u := by
  unfold oStep
  split
  · rename_i h
    exact ⟨.inl, fun h' => by rcases h' with h' | rfl; exact h'; exact h⟩
  · simp
theorem mem_oFold {u x : List Int} : ∀ {L : List Nat} {out : List (List Int)}, x ∈ L.foldl (oStep c u) out ↔ x ∈ out ∨ ∃ i ∈ L, x = refl c i u
  | [], out => by simp
  | j :: L, out => by
    rw [List.foldl_cons, mem_oFold, mem_oStep]
    constructor
    · rintro ((h | h) | ⟨i, hi, h⟩)
      · exact .inl h
      · exact .inr ⟨j, List.mem_cons_self .., h⟩
      · exact .inr ⟨i, List.mem_cons_of_mem _ hi, h⟩
    · rintro (h | ⟨i, hi, h⟩)
      · exact .inl (.inl h)
      · rcases List.mem_cons.1 hi with rfl | hi
        · exact .inl (.inr h)
        · exact .inr ⟨i, hi, h⟩
theorem nd_oStep {u : List Int} {out : List (List Int)} {i : Nat} (h : out.Nodup) : (oStep c u out i).Nodup := by
  unfold oStep
  split
  · exact h
  · rename_i hn
    rw [List.nodup_append]
    exact ⟨h, nd_one _, fun a ha b hb => by rw [List.mem_singleton] at hb; subst hb; exact fun e => hn (e ▸ ha)⟩
theorem nd_oFold {u : List Int} : ∀ {L : List Nat} {out : List (List Int)}, out.Nodup → (L.foldl (oStep c u) out).Nodup
  | [], _, h => h
  | _ :: L, _, h => nd_oFold (L := L) (nd_oStep h)
theorem OOk.row {v : List Int} {k : Nat} {out : List (List Int)} {u : List Int} (h : OOk c v k out) (hu : out[k]? = some u) : OOk c v (k + 1) (oRow c u out) := by
  obtain ⟨l, hl, _⟩ := oRow_pre c u out
  have hkl : k < out.length := (List.getElem?_eq_some_iff.1 hu).1
  refine ⟨nd_oFold h.nd, fun x hx => ?_, mem_oFold.2 (.inl h.self), fun j y hj hy i hi => ?_⟩
  · rcases mem_oFold.1 hx with hx | ⟨i, hi, rfl⟩
    · exact h.rch x hx
    · exact (h.rch u (List.mem_of_getElem? hu)).step (List.mem_range.1 hi)
  · rw [hl, List.getElem?_append_left (by omega)] at hy
    rcases Nat.lt_or_ge j k with hjk | hjk
    · exact mem_oFold.2 (.inl (h.done j y hjk hy i hi))
    · have : j = k := by omega
      subst this
      rw [hu] at hy
      cases hy
      exact mem_oFold.2 (.inr ⟨i, List.mem_range.2 hi, rfl⟩)
theorem nd_le {α : Type} [DecidableEq α] : ∀ {l m : List α}, l.Nodup → (∀ x ∈ l, x ∈ m) → l.length ≤ m.length
  | [], m, _, _ => Nat.zero_le _
  | a :: l, m, h, hs => by
    have h1 := List.nodup_cons.1 h
    have ha := hs a (List.mem_cons_self ..)
    have h2 := nd_le (m := m.erase a) h1.2 (fun x hx => (List.mem_erase_of_ne (fun (e : x = a) => h1.1 (by rw [← e]; exact hx))).2 (hs x (List.mem_cons_of_mem _ hx)))
    rw [List.length_erase_of_mem ha] at h2
    have := List.length_pos_of_mem ha
    simp only [List.length_cons]
    omega
end
end Go.Proofs.YtipjomdldjbenaaGreatDoor
