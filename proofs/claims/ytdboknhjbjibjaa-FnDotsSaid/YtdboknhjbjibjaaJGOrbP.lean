/- Two dominant weights of an orbit are equal. Plain: functions of numbers. No condition. Orbits of weights: the program's search from a weight and the reference's from its dominant one find the same weights. Plain lists. -/
import Derived.Test.YtdboknhjbjibjaaJGCox
import Derived.Test.YtdboknhjbjibjaaJGFin
/-! Two dominant weights of an orbit are equal. Plain: functions of numbers. No condition. -/
namespace Go.Proofs.Ytdboknhjbjibjaa.Cox

section
variable {n : Nat} {c : Nat → Nat → Int}
theorem dot_nonneg : ∀ {n : Nat} {f g : Nat → Int}, (∀ k, k < n → 0 ≤ f k) → (∀ k, k < n → 0 ≤ g k) → 0 ≤ dotN f g n
  | 0, _, _, _, _ => Int.le_refl _
  | n + 1, f, g, hf, hg => by
    have h1 := dot_nonneg (n := n) (f := f) (g := g) (fun k hk => hf k (by omega)) (fun k hk => hg k (by omega))
    have h2 := Int.mul_nonneg (hf n (by omega)) (hg n (by omega))
    simp only [dotN]
    omega
theorem eqv_rev (h : Car n c) {a b : List Nat} (ha : Lets n a) (hb : Lets n b) (e : Eqv n c a b) (m : Nat → Int) : aW c a.reverse m = aW c b.reverse m := by
  have b1 := aW_rev' h m hb
  have b2 := aW_rev h (aW c b.reverse m) ha
  rw [e.m, b1] at b2
  exact b2
theorem sW_self (h : Car n c) {i : Nat} (hi : i < n) (m : Nat → Int) : sW c i m i = -(m i) := by
  simp only [sW, h.diag i hi]; omega
/-- A word that takes a dominant weight to a dominant one fixes it. -/
theorem dom_uni (h : Car n c) : ∀ (N : Nat) (w : List Nat), w.length ≤ N → Lets n w → ∀ {m : Nat → Int}, (∀ k, k < n → 0 ≤ m k) → (∀ k, k < n → 0 ≤ aW c w m k) → ∀ k, k < n → aW c w m k = m k
  | _, [], _, _, _, _, _ => fun _ _ => rfl
  | 0, i :: w, hl, _, _, _, _ => by simp at hl
  | N + 1, i :: w, hl, hw, m, hm, hd => by
    have hi : i < n := hw i (List.mem_cons_self ..)
    have hw' : Lets n w := fun j hj => hw j (List.mem_cons_of_mem _ hj)
    have hl' : w.length ≤ N := by simp at hl; omega
    have hr := lets_rev hw'
    rcases coh h hr hi with hp | hn
    · have h1 : 0 ≤ aW c w m i := by rw [num_height h hw' hi]; exact dot_nonneg hp.2 hm
      have h2 : 0 ≤ sW c i (aW c w m) i := hd i hi
      rw [sW_self h hi] at h2
      have h0 : aW c w m i = 0 := by omega
      have e : ∀ k, aW c (i :: w) m k = aW c w m k := fun k => by
        show aW c w m k - aW c w m i * c k i = aW c w m k
        rw [h0, Int.zero_mul]; omega
      exact fun k hk => (e k).trans (dom_uni h N w hl' hw' hm (fun k hk => by rw [← e k]; exact hd k hk) k hk)
    · obtain ⟨w', a1, a2, a3⟩ := exchange h hi hr (fun y _ hy => coh h hy hi) hn
      have hl2 : Lets n (w.reverse ++ [i]) := fun j hj => by
        rcases List.mem_append.1 hj with h | h
        · exact hr j h
        · simp at h; omega
      have e : ∀ m, aW c (i :: w) m = aW c w'.reverse m := fun m => by
        have := eqv_rev h hl2 a1 a3 m
        simpa using this
      rw [e m]
      exact dom_uni h N w'.reverse (by simp at a2 ⊢; omega) (lets_rev a1) hm (fun k hk => by rw [← e m]; exact hd k hk)
end
end Go.Proofs.Ytdboknhjbjibjaa.Cox

/-! Orbits of weights: the program's search from a weight and the reference's from its dominant one find the same weights. Plain lists. -/
namespace Go.Proofs.Ytdboknhjbjibjaa
open Go.RowKit
set_option maxRecDepth 20000

theorem nd_one {α : Type} (a : α) : [a].Nodup := by simp
/-- Reflections one after another, the last one first. -/
def actN (c : List (List Int)) : List Nat → List Int → List Int
  | [], v => v
  | i :: w, v => refl c i (actN c w v)
theorem actN_app (c : List (List Int)) (v : List Int) (w' : List Nat) : ∀ w, actN c (w ++ w') v = actN c w (actN c w' v)
  | [] => rfl
  | i :: w => by simp only [List.cons_append, actN, actN_app c v w' w]
section
variable {c T : List (List Int)}
theorem wt_act (hT : Cor c T) (hc : CartanP c) {v : List Int} (h : Wt c T v) : ∀ {w : List Nat}, Cox.Lets c.length w → Wt c T (actN c w v) ∧ ∀ k, k < c.length → num (actN c w v) k = Cox.aW (ent c) w (num v) k
  | [], _ => ⟨h, fun _ _ => rfl⟩
  | i :: w, hw => by
    have hi : i < c.length := hw i (List.mem_cons_self ..)
    obtain ⟨h1, h2⟩ := wt_act hT hc h (w := w) (fun j hj => hw j (List.mem_cons_of_mem _ hj))
    refine ⟨h1.step hT hc hi, fun k hk => ?_⟩
    show num (refl c i (actN c w v)) k = Cox.sW (ent c) i (Cox.aW (ent c) w (num v)) k
    rw [h1.exact hT hc hi hk]
    simp only [Cox.sW, h2 i hi, h2 k hk]
theorem wt_two (hT : Cor c T) (hc : CartanP c) {v : List Int} (h : Wt c T v) {i : Nat} (hi : i < c.length) : refl c i (refl c i v) = v := by
  have h2 := h.step hT hc hi
  refine num_ext (n := c.length) (by rw [refl_length, refl_length, h.len]) h.len fun k hk => ?_
  rw [h2.exact hT hc hi hk]
  have e : ∀ j, j < c.length → num (refl c i v) j = Cox.sW (ent c) i (num v) j := fun j hj => h.exact hT hc hi hj
  have := congrFun (Cox.sW_two hc.car hi (num v)) k
  rw [← this]
  simp only [Cox.sW, e i hi, e k hk]
/-- w is an image of v. -/
def Rch (c : List (List Int)) (v x : List Int) : Prop := ∃ w, Cox.Lets c.length w ∧ x = actN c w v
theorem Rch.refl (c : List (List Int)) (v : List Int) : Rch c v v := ⟨[], fun _ h => by simp at h, rfl⟩
theorem Rch.step {v x : List Int} (h : Rch c v x) {i : Nat} (hi : i < c.length) : Rch c v (Proofs.Ytdboknhjbjibjaa.refl c i x) := by
  obtain ⟨w, hw, rfl⟩ := h
  exact ⟨i :: w, fun j hj => by
    rcases List.mem_cons.1 hj with rfl | hj
    · exact hi
    · exact hw j hj, rfl⟩
theorem Rch.wt (hT : Cor c T) (hc : CartanP c) {v x : List Int} (h : Wt c T v) (hx : Rch c v x) : Wt c T x := by
  obtain ⟨w, hw, rfl⟩ := hx
  exact (wt_act hT hc h hw).1
theorem Rch.trans {v x y : List Int} (h : Rch c v x) (k : Rch c x y) : Rch c v y := by
  obtain ⟨w, hw, rfl⟩ := h
  obtain ⟨w', hw', rfl⟩ := k
  exact ⟨w' ++ w, Cox.lets_app hw' hw, (actN_app c v w w').symm⟩
theorem rch_back (hT : Cor c T) (hc : CartanP c) {v : List Int} (h : Wt c T v) : ∀ {w : List Nat}, Cox.Lets c.length w → Rch c (actN c w v) v
  | [], _ => Rch.refl c v
  | i :: w, hw => by
    have hi : i < c.length := hw i (List.mem_cons_self ..)
    have hw' : Cox.Lets c.length w := fun j hj => hw j (List.mem_cons_of_mem _ hj)
    have h1 := (wt_act hT hc h hw').1
    have h2 : Rch c (Proofs.Ytdboknhjbjibjaa.refl c i (actN c w v)) (actN c w v) := by
      have := (Rch.refl c (Proofs.Ytdboknhjbjibjaa.refl c i (actN c w v))).step hi
      rwa [wt_two hT hc h1 hi] at this
    exact h2.trans (rch_back hT hc h hw')
theorem Rch.symm (hT : Cor c T) (hc : CartanP c) {v x : List Int} (h : Wt c T v) (hx : Rch c v x) : Rch c x v := by
  obtain ⟨w, hw, rfl⟩ := hx
  exact rch_back hT hc h hw
theorem dom_num {v : List Int} (h : firstN v = none) (k : Nat) : 0 ≤ num v k := by
  unfold num
  cases e : v[k]? with
  | none => simp
  | some x => exact firstN_none.1 h x (List.mem_of_getElem? e)
/-- Two dominant weights of an orbit are equal. -/
theorem dom_one (hT : Cor c T) (hc : CartanP c) {v x : List Int} (h : Wt c T v) (hx : Rch c v x) (hd : firstN v = none) (hd' : firstN x = none) : x = v := by
  obtain ⟨w, hw, rfl⟩ := hx
  obtain ⟨h1, h2⟩ := wt_act hT hc h hw
  refine num_ext (n := c.length) h1.len h.len fun k hk => ?_
  rw [h2 k hk]
  exact Cox.dom_uni hc.car _ w (Nat.le_refl _) hw (fun k _ => dom_num hd k) (fun k hk => by rw [← h2 k hk]; exact dom_num hd' k) k hk
/-- A weight raised is a dominant image. -/
theorem dm_ok (hT : Cor c T) (hc : CartanP c) : ∀ (m : Nat) {v : List Int}, DomS c T v m → firstN (dmL c v) = none ∧ Rch c v (dmL c v)
  | m, v, h => by
    cases e : firstN v with
    | none => rw [dm_end e]; exact ⟨e, Rch.refl c v⟩
    | some i =>
      obtain ⟨m', rfl, h3⟩ := h.back hT hc e
      have hi : i < c.length := by have := firstN_lt e; rw [h.1.len] at this; exact this
      rw [dm_turn (down_dom hT hc) h e]
      obtain ⟨h4, h5⟩ := dm_ok hT hc m' h3
      exact ⟨h4, ((Rch.refl c v).step hi).trans h5⟩
theorem dm_ok' (hT : Cor c T) (hc : CartanP c) {v : List Int} (h : Wt c T v) : firstN (dmL c v) = none ∧ Rch c v (dmL c v) := dm_ok hT hc _ ⟨h, rfl⟩
/-- The dominant weight of an image is the weight's. -/
theorem dm_same (hT : Cor c T) (hc : CartanP c) {v x : List Int} (h : Wt c T v) (hx : Rch c v x) : dmL c x = dmL c v := by
  obtain ⟨a1, a2⟩ := dm_ok' hT hc h
  obtain ⟨b1, b2⟩ := dm_ok' hT hc (hx.wt hT hc h)
  have hd := a2.wt hT hc h
  exact dom_one hT hc hd (((Rch.symm hT hc h a2).trans hx).trans b2) a1 b1
end

/-! The two searches. -/
section
variable {c T : List (List Int)}
/-- The program: one more reflection of u. -/
def oStep (c : List (List Int)) (u : List Int) (out : List (List Int)) (i : Nat) : List (List Int) := if refl c i u ∈ out then out else out ++ [refl c i u]
def oRow (c : List (List Int)) (u : List Int) (out : List (List Int)) : List (List Int) := (List.range c.length).foldl (oStep c u) out
structure OOk (c : List (List Int)) (v : List Int) (k : Nat) (out : List (List Int)) : Prop where
  nd : out.Nodup
  rch : ∀ x ∈ out, Rch c v x
  self : v ∈ out
  done : ∀ (j : Nat) (u : List Int), j < k → out[j]? = some u → ∀ i, i < c.length → refl c i u ∈ out
theorem oStep_pre (c : List (List Int)) (u : List Int) (out : List (List Int)) (i : Nat) : ∃ l, oStep c u out i = out ++ l ∧ l.length ≤ 1 := by
  unfold oStep
  split
  · exact ⟨[], by simp, by simp⟩
  · exact ⟨_, rfl, by simp⟩
theorem oFold_pre (c : List (List Int)) (u : List Int) : ∀ (L : List Nat) (out : List (List Int)), ∃ l, L.foldl (oStep c u) out = out ++ l ∧ l.length ≤ L.length
  | [], out => ⟨[], by simp, by simp⟩
  | i :: L, out => by
    obtain ⟨l1, h1, k1⟩ := oStep_pre c u out i
    obtain ⟨l2, h2, k2⟩ := oFold_pre c u L (oStep c u out i)
    exact ⟨l1 ++ l2, by rw [List.foldl_cons, h2, h1, List.append_assoc], by simp; omega⟩
theorem oRow_pre (c : List (List Int)) (u : List Int) (out : List (List Int)) : ∃ l, oRow c u out = out ++ l ∧ l.length ≤ c.length := by
  obtain ⟨l, h, k⟩ := oFold_pre c u (List.range c.length) out
  exact ⟨l, h, by simpa using k⟩
theorem mem_oStep {u x : List Int} {out : List (List Int)} {i : Nat} : x ∈ oStep c u out i ↔ x ∈ out ∨ x = refl c i u := by
  unfold oStep
  split
  · rename_i h
    exact ⟨.inl, fun h' => by rcases h' with h' | rfl; exact h'; exact h⟩
  · simp
theorem mem_oFold {u x : List Int} : ∀ {L : List Nat} {out : List (List Int)}, x ∈ L.foldl (oStep c u) out ↔ x ∈ out ∨ ∃ i ∈ L, x = refl c i u
  | [], out => by simp
  | j :: L, out => by
    rw [List.foldl_cons, mem_oFold, mem_oStep]
    constructor
    · rintro ((h | h) | ⟨i, hi, h⟩)
      · exact .inl h
      · exact .inr ⟨j, List.mem_cons_self .., h⟩
      · exact .inr ⟨i, List.mem_cons_of_mem _ hi, h⟩
    · rintro (h | ⟨i, hi, h⟩)
      · exact .inl (.inl h)
      · rcases List.mem_cons.1 hi with rfl | hi
        · exact .inl (.inr h)
        · exact .inr ⟨i, hi, h⟩
theorem nd_oStep {u : List Int} {out : List (List Int)} {i : Nat} (h : out.Nodup) : (oStep c u out i).Nodup := by
  unfold oStep
  split
  · exact h
  · rename_i hn
    rw [List.nodup_append]
    exact ⟨h, nd_one _, fun a ha b hb => by rw [List.mem_singleton] at hb; subst hb; exact fun e => hn (e ▸ ha)⟩
theorem nd_oFold {u : List Int} : ∀ {L : List Nat} {out : List (List Int)}, out.Nodup → (L.foldl (oStep c u) out).Nodup
  | [], _, h => h
  | _ :: L, _, h => nd_oFold (L := L) (nd_oStep h)
theorem OOk.row {v : List Int} {k : Nat} {out : List (List Int)} {u : List Int} (h : OOk c v k out) (hu : out[k]? = some u) : OOk c v (k + 1) (oRow c u out) := by
  obtain ⟨l, hl, _⟩ := oRow_pre c u out
  have hkl : k < out.length := (List.getElem?_eq_some_iff.1 hu).1
  refine ⟨nd_oFold h.nd, fun x hx => ?_, mem_oFold.2 (.inl h.self), fun j y hj hy i hi => ?_⟩
  · rcases mem_oFold.1 hx with hx | ⟨i, hi, rfl⟩
    · exact h.rch x hx
    · exact (h.rch u (List.mem_of_getElem? hu)).step (List.mem_range.1 hi)
  · rw [hl, List.getElem?_append_left (by omega)] at hy
    rcases Nat.lt_or_ge j k with hjk | hjk
    · exact mem_oFold.2 (.inl (h.done j y hjk hy i hi))
    · have : j = k := by omega
      subst this
      rw [hu] at hy
      cases hy
      exact mem_oFold.2 (.inr ⟨i, List.mem_range.2 hi, rfl⟩)
end
end Go.Proofs.Ytdboknhjbjibjaa
