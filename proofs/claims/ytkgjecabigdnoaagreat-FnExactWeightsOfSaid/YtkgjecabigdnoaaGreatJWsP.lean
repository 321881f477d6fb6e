/- The orbits of different dominant weights are apart; what both list as the weights of a representation. Plain lists. -/
import Derived.Test.YtkgjecabigdnoaaGreatJGDb
namespace Go.Proofs.YtkgjecabigdnoaaGreat
open Go.RowKit
set_option maxRecDepth 20000

def wsAll (c : List (List Int)) : List (List Int) → List (List Int) → Option (List (List Int))
  | [], acc => some acc
  | u :: ls, acc => if obOk c u = true ∧ acc.length + (obR c u).length ≤ 200 then wsAll c ls (acc ++ obR c u) else none
def wsQ (c : List (List Int)) (v : List Int) : Option (List (List Int)) := wsAll c (dbR c v) []
def wsOk (c : List (List Int)) (v : List Int) : Bool := dbOk c v && (wsQ c v).isSome
def wsR (c : List (List Int)) (v : List Int) : List (List Int) := if dbOk c v = true then putsV ((wsQ c v).getD []) else []
def WsC (c : List (List Int)) (v : List Int) (w : World) (e : Ending) (w' : World) : Prop := ∃ r, e = .returned (.tuple #[r, .bool (wsOk c v)]) ∧ FII (New w w') w' r (wsR c v) ∧ Below w.heap.size w w'
theorem wsAll_cons (c ls acc : List (List Int)) (u : List Int) : wsAll c (u :: ls) acc = if obOk c u = true ∧ acc.length + (obR c u).length ≤ 200 then wsAll c ls (acc ++ obR c u) else none := rfl
theorem wsAll_yes {c ls acc : List (List Int)} {u : List Int} (h1 : obOk c u = true) (h2 : acc.length + (obR c u).length ≤ 200) : wsAll c (u :: ls) acc = wsAll c ls (acc ++ obR c u) := by rw [wsAll_cons, if_pos ⟨h1, h2⟩]
theorem wsAll_no1 {c ls acc : List (List Int)} {u : List Int} (h1 : obOk c u = false) : wsAll c (u :: ls) acc = none := by rw [wsAll_cons, if_neg (fun h => by rw [h1] at h; cases h.1)]
theorem wsAll_no2 {c ls acc : List (List Int)} {u : List Int} (h2 : 200 < acc.length + (obR c u).length) : wsAll c (u :: ls) acc = none := by rw [wsAll_cons, if_neg (fun h => by have := h.2; omega)]

theorem dom_first : ∀ {v : List Int}, dom v = true → firstN v = none
  | [], _ => rfl
  | x :: v, h => by
    unfold dom at h
    unfold firstN
    by_cases hx : x < 0
    · rw [if_pos hx] at h; cases h
    · rw [if_neg hx] at h
      rw [if_neg hx, dom_first h]; rfl
theorem nodup_dsc {n : Nat} {l : List (List Int)} (h : Dsc n l) : l.Nodup := h.srt.imp (fun {a b} hab e => by subst e; rw [gtL_irr] at hab; cases hab)
theorem putsV_perm {n : Nat} {q : List (List Int)} (hn : q.Nodup) (hl : ∀ x ∈ q, x.length = n) : (putsV q).Perm q := by
  obtain ⟨h1, h2⟩ := putsV_ok hl
  exact (List.perm_ext_iff_of_nodup (nodup_dsc h1) hn).2 h2
/-- The images of a dominant weight. -/
theorem ob_rch {c : List (List Int)} {u : List Int} (h : obOk c u = true) (hd : dom u = true) : (obR c u).Nodup ∧ (∀ x ∈ obR c u, x.length = c.length ∧ Rch c u x) ∧ CartanP c ∧ Cor c (cors c) ∧ Wt c (cors c) u := by
  unfold obOk at h
  rw [Bool.and_eq_true] at h
  obtain ⟨h1, h2⟩ := h
  obtain ⟨hf, hc, hT, hw⟩ := domOk_parts h1
  have e0 := dm_end (c := c) (dom_first hd)
  have q0 : QOk c u 0 [u] := ⟨nd_one _, by simp, Nat.zero_le _, fun x hx => by rw [List.mem_singleton] at hx; subst hx; exact Rch.refl c _, List.mem_singleton.2 rfl, fun j x hj => by omega⟩
  have hor : obR c u = putsV ((obQ c u).getD []) := by unfold obR; rw [if_pos h1]
  have hq : obQ c u = qBfs c 201 0 [u] := by unfold obQ; rw [e0]
  rcases qBfs_ok 201 0 [u] q0 (by omega) with ⟨r, er, hn, _, hr, _, _⟩ | ⟨er, _⟩
  · rw [hor, hq, er, Option.getD_some]
    have hl : ∀ x ∈ r, x.length = c.length := fun x hx => (Rch.wt hT hc hw.1 (hr x hx)).len
    obtain ⟨a, b⟩ := putsV_ok hl
    exact ⟨nodup_dsc a, fun x hx => ⟨a.len x hx, hr x ((b x).1 hx)⟩, hc, hT, hw.1⟩
  · rw [hq, er] at h2; cases h2
theorem ob_ne {c : List (List Int)} {u : List Int} (h : obOk c u = true) (hd : dom u = true) : obR c u ≠ [] := by
  unfold obOk at h
  rw [Bool.and_eq_true] at h
  obtain ⟨h1, h2⟩ := h
  obtain ⟨hf, hc, hT, hw⟩ := domOk_parts h1
  have e0 := dm_end (c := c) (dom_first hd)
  have q0 : QOk c u 0 [u] := ⟨nd_one _, by simp, Nat.zero_le _, fun x hx => by rw [List.mem_singleton] at hx; subst hx; exact Rch.refl c _, List.mem_singleton.2 rfl, fun j x hj => by omega⟩
  have hor : obR c u = putsV ((obQ c u).getD []) := by unfold obR; rw [if_pos h1]
  have hq : obQ c u = qBfs c 201 0 [u] := by unfold obQ; rw [e0]
  rcases qBfs_ok 201 0 [u] q0 (by omega) with ⟨r, er, hn, _, hr, hm, _⟩ | ⟨er, _⟩
  · rw [hor, hq, er, Option.getD_some]
    intro e
    have := ((putsV_ok (n := c.length) (fun x hx => (Rch.wt hT hc hw.1 (hr x hx)).len)).2 u).2 hm
    rw [e] at this; cases this
  · rw [hq, er] at h2; cases h2
theorem ob_apart {c : List (List Int)} {u u' : List Int} (h : obOk c u = true) (hd : dom u = true) (h' : obOk c u' = true) (hd' : dom u' = true) {x : List Int} (hx : x ∈ obR c u) (hx' : x ∈ obR c u') : u' = u := by
  obtain ⟨_, a, hc, hT, hw⟩ := ob_rch h hd
  obtain ⟨_, a', _, _, hw'⟩ := ob_rch h' hd'
  exact dom_one hT hc hw ((a x hx).2.trans (Rch.symm hT hc hw' (a' x hx').2)) (dom_first hd) (dom_first hd')
/-- What has been laid down out of the first weights. -/
structure WsI (c : List (List Int)) (L : List (List Int)) (k : Nat) (acc : List (List Int)) : Prop where
  nd : acc.Nodup
  len : ∀ x ∈ acc, x.length = c.length
  src : ∀ x ∈ acc, ∃ j u, j < k ∧ L[j]? = some u ∧ obOk c u = true ∧ x ∈ obR c u
theorem WsI.start (c L : List (List Int)) : WsI c L 0 [] := ⟨List.nodup_nil, fun x hx => by simp at hx, fun x hx => by simp at hx⟩
theorem WsI.step {c L acc : List (List Int)} {k : Nat} {u : List Int} (h : WsI c L k acc) (hL : L.Nodup) (hd : ∀ x ∈ L, dom x = true) (hu : L[k]? = some u) (ho : obOk c u = true) : WsI c L (k + 1) (acc ++ obR c u) := by
  obtain ⟨a1, a2, _⟩ := ob_rch ho (hd u (List.mem_of_getElem? hu))
  refine ⟨List.nodup_append.2 ⟨h.nd, a1, fun x hx y hy e => ?_⟩, fun x hx => ?_, fun x hx => ?_⟩
  · subst e
    obtain ⟨j, u', hj, hu', ho', hx'⟩ := h.src x hx
    have e := ob_apart ho' (hd u' (List.mem_of_getElem? hu')) ho (hd u (List.mem_of_getElem? hu)) hx' hy
    subst e
    have hlt := (List.getElem?_eq_some_iff.1 hu').1
    have := (List.getElem?_inj hlt hL).1 (hu'.trans hu.symm)
    omega
  · rcases List.mem_append.1 hx with hx | hx
    · exact h.len x hx
    · exact (a2 x hx).1
  · rcases List.mem_append.1 hx with hx | hx
    · obtain ⟨j, u', hj, r⟩ := h.src x hx
      exact ⟨j, u', by omega, r⟩
    · exact ⟨k, u, by omega, hu, ho, hx⟩
theorem putsV_app (p q : List (List Int)) : putsV (p ++ q) = q.foldl (fun l v => putV v l) (putsV p) := by unfold putsV; rw [List.foldl_append]
theorem WsI.puts_len {c L acc : List (List Int)} {k : Nat} (h : WsI c L k acc) : (putsV acc).length = acc.length := (putsV_perm h.nd h.len).length_eq
theorem dbR_nodup (c : List (List Int)) (v : List Int) : (dbR c v).Nodup := nodup_dsc dbR_ok.2.2
theorem dbR_dom (c : List (List Int)) (v : List Int) : ∀ x ∈ dbR c v, dom x = true := fun x hx => (dbR_ok.2.1 x hx).2
theorem wsAll_ok {c L : List (List Int)} (hL : L.Nodup) (hd : ∀ x ∈ L, dom x = true) : ∀ (m k : Nat) {acc s : List (List Int)}, m = L.length - k → k ≤ L.length → WsI c L k acc → acc.length ≤ 200 → wsAll c (L.drop k) acc = some s → WsI c L L.length s ∧ s.length ≤ 200
  | 0, k, acc, s, hm, hk, h, hl, e => by
    have : k = L.length := by omega
    subst this
    rw [List.drop_length] at e
    simp only [wsAll, Option.some.injEq] at e
    subst e
    exact ⟨h, hl⟩
  | m + 1, k, acc, s, hm, hk, h, hl, e => by
    have hlt : k < L.length := by omega
    have hu : L[k]? = some L[k] := List.getElem?_eq_getElem hlt
    rw [drop_step hu, wsAll_cons] at e
    by_cases hc : obOk c L[k] = true ∧ acc.length + (obR c L[k]).length ≤ 200
    · rw [if_pos hc] at e
      exact wsAll_ok hL hd m (k + 1) (by omega) (by omega) (h.step hL hd hu hc.1) (by simp; omega) e
    · rw [if_neg hc] at e; cases e
theorem total_leW {A B : Nat} : ∀ {L : List (List Int)}, L.length ≤ A → (∀ x ∈ L, x.length ≤ B) → total L ≤ A * (B + 1) := by
  intro L hA hB
  have h1 : (L.map List.length).sum ≤ L.length * B := by
    clear hA
    induction L with
    | nil => simp
    | cons x L ih =>
      have := ih (fun y hy => hB y (List.mem_cons_of_mem _ hy))
      have := hB x (List.mem_cons_self ..)
      simp only [List.map_cons, List.sum_cons, List.length_cons, Nat.add_mul, Nat.one_mul]
      omega
  have h2 : L.length * B ≤ A * B := Nat.mul_le_mul_right _ hA
  unfold total
  rw [Nat.mul_add, Nat.mul_one]
  omega
theorem wsR_total (c : List (List Int)) (l : List Int) : total (wsR c l) ≤ 1000 := by
  unfold wsR
  split
  · rename_i hok
    cases hs : wsQ c l with
    | none => decide
    | some s =>
      have hd : dbC c l = true := by unfold dbOk at hok; rw [Bool.and_eq_true] at hok; exact hok.1
      have hf : finB c = true := by unfold dbC at hd; rw [Bool.and_eq_true, Bool.and_eq_true] at hd; exact hd.2.1
      have h4 := (finB_ok hf).cart.le
      obtain ⟨h1, h2⟩ := wsAll_ok (dbR_nodup c l) (dbR_dom c l) _ 0 rfl (Nat.zero_le _) (WsI.start c _) (by simp) (by rw [List.drop_zero]; exact hs)
      have hp := h1.puts_len
      rw [Option.getD_some]
      have hm := (putsV_perm h1.nd h1.len)
      refine Nat.le_trans (total_leW (A := 200) (B := 4) (by omega) (fun x hx => ?_)) (by omega)
      rw [h1.len x (hm.mem_iff.1 hx)]; exact h4
  · decide
end Go.Proofs.YtkgjecabigdnoaaGreat
