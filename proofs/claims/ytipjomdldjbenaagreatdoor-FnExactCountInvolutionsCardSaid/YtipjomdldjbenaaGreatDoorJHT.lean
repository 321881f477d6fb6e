/- Several rows of the call's own, known cell by cell: reading, storing, one row more. No condition. -/
import Derived.Test.YtipjomdldjbenaaGreatDoorJGHeap
namespace Go.Proofs.YtipjomdldjbenaaGreatDoor
open Go.RowKit
set_option maxRecDepth 20000

/-- Slices, and what lies in their cells. -/
abbrev Ml := List (Value × List Value)
abbrev aVs (e : TypeId) (X : Ml) : Thing := fun F w => (∀ x ∈ X, w.ownsRow 0 e 1 x.1 x.2.length x.2 ∧ ∀ b, x.1.ownBlock = some b → F b) ∧ (X.map Prod.fst).Pairwise Apart
theorem st_Vs (e : TypeId) (X : Ml) : Steady (aVs e X) := fun _ _ _ h k => ⟨fun x hx => ⟨own_keep (h.1 x hx).1 fun b hb => k b ((h.1 x hx).2 b hb) ((h.1 x hx).1.lt b hb).2, (h.1 x hx).2⟩, h.2⟩
section
variable {A : Nat → Prop} {w0 w w' : World} {Ps : List Thing}
theorem HSx.noVs (h : HSx A w0 w Ps) (e : TypeId) : HSx A w0 w (Ps ++ [aVs e []]) :=
  h.add (Below.refl _ _) (st_Vs e []) (F := NoB) ⟨fun x hx => by simp at hx, List.Pairwise.nil⟩ (fun b hb => hb.elim)
/-- One row more. -/
theorem HSx.moreVs {e : TypeId} {X : Ml} {r : Value} {vs : List Value} (h : HSx A w0 w Ps) (j k : Nat) (hjk : j ≠ k) (hj : Ps[j]? = some (aVs e X)) (hk : Ps[k]? = some (aV e r vs)) :
    HSx A w0 w ((Ps.set j (aVs e (X ++ [(r, vs)]))).set k aTrue) := by
  refine h.join j k hjk hj hk (st_Vs _ _) fun F G hF hG hd => ⟨fun x hx => ?_, ?_⟩
  · rcases List.mem_append.1 hx with hx | hx
    · exact ⟨(hF.1 x hx).1, fun b hb => .inl ((hF.1 x hx).2 b hb)⟩
    · simp only [List.mem_singleton] at hx
      subst hx
      exact ⟨hG.1, fun b hb => .inr (hG.2 b hb)⟩
  · rw [List.map_append, List.pairwise_append]
    refine ⟨hF.2, by simp, fun a ha b hb q hq hq' => ?_⟩
    obtain ⟨z, hz, rfl⟩ := List.mem_map.1 ha
    simp only [List.map_cons, List.map_nil, List.mem_singleton] at hb
    subst hb
    exact hd q ((hF.1 z hz).2 q hq) (hG.2 q hq')
theorem own_len {B : Nat} {e : TypeId} {n m cap : Nat} {a : Option Addr} {vs : List Value} (h : w.ownsRow B e 1 (.slice a n cap) m vs) : n = m := by
  rcases h.2 with ⟨hv, h0⟩ | ⟨_, _, _, hv, _⟩
  · simp at hv; omega
  · simp at hv; omega
/-- A cell of one of them. -/
theorem HSx.cellVs {e : TypeId} {X : Ml} {g n cap u k : Nat} {vs : List Value} {r : Value} (h : HSx A w0 w Ps) (j : Nat) (hj : Ps[j]? = some (aVs e X)) (hx : X[u]? = some (.slice (some ⟨g, 0, none⟩) n cap, vs)) (hr : vs[k]? = some r) :
    w.cell? ⟨g, k, none⟩ = some r ∧ w.frozen? ⟨g, k, none⟩ = false := by
  obtain ⟨F, hF, _⟩ := HSx.get h j hj
  have hx := hF.1 _ (List.mem_of_getElem? hx)
  have hk := (List.getElem?_eq_some_iff.1 hr).1
  have h1 : w.ownsRow 0 e 1 (.slice (some ⟨g, 0, none⟩) n cap) vs.length vs := hx.1
  have hn := own_len h1
  subst hn
  exact ⟨by rw [h1.cellAt k (by omega)]; exact hr, h1.frozenAt k⟩
theorem HSx.formVs {e : TypeId} {X : Ml} {u : Nat} {x : Value × List Value} (h : HSx A w0 w Ps) (j : Nat) (hj : Ps[j]? = some (aVs e X)) (hx : X[u]? = some x) : (∃ a cap, x.1 = .slice a x.2.length cap) ∧ (0 < x.2.length → ∃ g cap, x.1 = .slice (some ⟨g, 0, none⟩) x.2.length cap) := by
  obtain ⟨F, hF, _⟩ := HSx.get h j hj
  rcases (hF.1 _ (List.mem_of_getElem? hx)).1.2 with ⟨hv, h0⟩ | ⟨g, cap, cur, hv, _⟩
  · exact ⟨⟨_, _, by rw [hv, h0]⟩, fun h => by omega⟩
  · exact ⟨⟨_, _, hv⟩, fun _ => ⟨g, cap, hv⟩⟩
/-- A value stored in one of them. -/
theorem HSx.putVs {e : TypeId} {X : Ml} {g n cap u : Nat} {vs : List Value} (h : HSx A w0 w Ps) (j : Nat) (hj : Ps[j]? = some (aVs e X)) (hx : X[u]? = some (.slice (some ⟨g, 0, none⟩) n cap, vs)) (hnew : w0.heap.size ≤ g) (k : Nat) (r : Value) :
    HSx A w0 (w.setCell ⟨g, k, none⟩ r) (Ps.set j (aVs e (X.set u (.slice (some ⟨g, 0, none⟩) n cap, vs.set k r)))) := by
  have hz := size_setCell w ⟨g, k, none⟩ r
  have hu := (List.getElem?_eq_some_iff.1 hx).1
  refine h.upd j hj (st_Vs _ _) (h.bl.setCell hnew _) (by rw [hz]; exact Nat.le_refl _) fun F hF _ => ⟨F, ⟨fun x hx2 => ?_, ?_⟩, fun _ hb => .inl hb, fun b _ hb => heap_setCell_other w ⟨g, k, none⟩ b _ (fun e2 => hb (by have e2 : b = g := e2; subst e2; exact (hF.1 _ (List.mem_of_getElem? hx)).2 b rfl))⟩
  · obtain ⟨m, hm⟩ := List.getElem?_of_mem hx2
    by_cases e1 : m = u
    · subst e1
      rw [List.getElem?_set_self hu] at hm
      simp only [Option.some.injEq] at hm
      subst hm
      have h1 := (hF.1 _ (List.mem_of_getElem? hx)).1
      have hn := own_len h1
      have h1 : w.ownsRow 0 e 1 (.slice (some ⟨g, 0, none⟩) n cap) vs.length vs := h1
      have hn : n = vs.length := hn
      subst hn
      refine ⟨?_, (hF.1 _ (List.mem_of_getElem? hx)).2⟩
      have := (h1.stored k r).1
      show World.ownsRow _ 0 e 1 (.slice (some ⟨g, 0, none⟩) vs.length cap) (vs.set k r).length (vs.set k r)
      rw [List.length_set]
      exact this
    · rw [List.getElem?_set_ne (Ne.symm e1)] at hm
      have h1 := hF.1 x (List.mem_of_getElem? hm)
      refine ⟨own_keep h1.1 fun b hb => heap_setCell_other w ⟨g, k, none⟩ b _ (fun e2 => ?_), h1.2⟩
      have e2 : b = g := e2
      subst e2
      have hp := List.pairwise_iff_getElem.1 hF.2
      obtain ⟨lm, em⟩ := List.getElem?_eq_some_iff.1 hm
      obtain ⟨lu, eu⟩ := List.getElem?_eq_some_iff.1 hx
      rcases Nat.lt_or_gt_of_ne e1 with h2 | h2
      · have := hp m u (by simpa using lm) (by simpa using lu) h2
        simp only [List.getElem_map, em, eu] at this
        exact this b hb rfl
      · have := hp u m (by simpa using lu) (by simpa using lm) h2
        simp only [List.getElem_map, em, eu] at this
        exact this b rfl hb
  · have : (X.set u (Value.slice (some ⟨g, 0, none⟩) n cap, vs.set k r)).map Prod.fst = X.map Prod.fst := by
      rw [List.map_set]
      refine List.ext_getElem? fun m => ?_
      by_cases e1 : m = u
      · subst e1
        rw [List.getElem?_set_self (by simpa using hu), List.getElem?_map, hx]
        rfl
      · rw [List.getElem?_set_ne (Ne.symm e1)]
    rw [this]
    exact hF.2
/-- Own things of a call since w0. -/
theorem HS.newVs {w0 w : World} {Ps : List Thing} {e : TypeId} {X : Ml} (h : HS w0 w Ps) (j : Nat) (hj : Ps[j]? = some (aVs e X)) {u : Nat} {x : Value × List Value} (hx : X[u]? = some x) : ∀ b, x.1.ownBlock = some b → w0.heap.size ≤ b := by
  obtain ⟨F, hF, hn⟩ := h.get j hj
  exact fun b hb => (hn b ((hF.1 _ (List.mem_of_getElem? hx)).2 b hb)).1
/-- A cell of one of several rows of numbers; a number stored in one of them. -/
theorem HSx.cellS {Z : Zl} {g n cap u k : Nat} {l : List Int} {x : Int} (h : HSx A w0 w Ps) (j : Nat) (hj : Ps[j]? = some (aRs Z)) (hz : Z[u]? = some (.slice (some ⟨g, 0, none⟩) n cap, l)) (hx : l[k]? = some x) :
    w.cell? ⟨g, k, none⟩ = some (.int .i64 x) ∧ w.frozen? ⟨g, k, none⟩ = false := by
  obtain ⟨F, hF, _⟩ := HSx.get h j hj
  have hf : FI F w (.slice (some ⟨g, 0, none⟩) n cap) l := hF.1 _ (List.mem_of_getElem? hz)
  have hn := own_len hf.1
  have hk := (List.getElem?_eq_some_iff.1 hx).1
  exact ⟨hf.cell hx (by rw [← hn] at hk; exact hk), hf.froz hn.symm k⟩
theorem HS.putS {Z : Zl} {g n cap u : Nat} {l : List Int} (h : HS w0 w Ps) (j : Nat) (hj : Ps[j]? = some (aRs Z)) (hz : Z[u]? = some (.slice (some ⟨g, 0, none⟩) n cap, l)) (k : Nat) (x : Int) :
    HS w0 (w.setCell ⟨g, k, none⟩ (.int .i64 x)) (Ps.set j (aRs (Z.set u (.slice (some ⟨g, 0, none⟩) n cap, l.set k x)))) := by
  have hsz := size_setCell w ⟨g, k, none⟩ (.int .i64 x)
  have hu := (List.getElem?_eq_some_iff.1 hz).1
  obtain ⟨F0, hF0, hN0⟩ := h.get j hj
  have hnew : w0.heap.size ≤ g := (hN0 g ((hF0.1 _ (List.mem_of_getElem? hz)).2 g rfl)).1
  refine h.upd j hj (st_Rs _) (h.bl.setCell hnew _) (by rw [hsz]; exact Nat.le_refl _) fun F hF _ => ⟨F, ⟨fun y hy => ?_, ?_⟩, fun _ hb => .inl hb, fun b _ hb => heap_setCell_other w ⟨g, k, none⟩ b _ (fun e2 => hb (by have e2 : b = g := e2; subst e2; exact (hF.1 _ (List.mem_of_getElem? hz)).2 b rfl))⟩
  · obtain ⟨m, hm⟩ := List.getElem?_of_mem hy
    by_cases e1 : m = u
    · subst e1
      rw [List.getElem?_set_self hu] at hm
      simp only [Option.some.injEq] at hm
      subst hm
      have hf : FI F w (.slice (some ⟨g, 0, none⟩) n cap) l := hF.1 _ (List.mem_of_getElem? hz)
      exact hf.put (own_len hf.1).symm k x
    · rw [List.getElem?_set_ne (Ne.symm e1)] at hm
      have h1 := hF.1 y (List.mem_of_getElem? hm)
      refine ⟨own_keep h1.1 fun b hb => heap_setCell_other w ⟨g, k, none⟩ b _ (fun e2 => ?_), h1.2⟩
      have e2 : b = g := e2
      subst e2
      have hp := List.pairwise_iff_getElem.1 hF.2
      obtain ⟨lm, em⟩ := List.getElem?_eq_some_iff.1 hm
      obtain ⟨lu, eu⟩ := List.getElem?_eq_some_iff.1 hz
      rcases Nat.lt_or_gt_of_ne e1 with h2 | h2
      · have := hp m u (by simpa using lm) (by simpa using lu) h2
        simp only [List.getElem_map, em, eu] at this
        exact this b hb rfl
      · have := hp u m (by simpa using lu) (by simpa using lm) h2
        simp only [List.getElem_map, em, eu] at this
        exact this b rfl hb
  · have : (Z.set u (Value.slice (some ⟨g, 0, none⟩) n cap, l.set k x)).map Prod.fst = Z.map Prod.fst := by
      rw [List.map_set]
      refine List.ext_getElem? fun m => ?_
      by_cases e1 : m = u
      · subst e1
        rw [List.getElem?_set_self (by simpa using hu), List.getElem?_map, hz]
        rfl
      · rw [List.getElem?_set_ne (Ne.symm e1)]
    rw [this]
    exact hF.2
end
end Go.Proofs.YtipjomdldjbenaaGreatDoor
