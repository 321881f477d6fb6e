/- Plain law of the dot action: a word's reverse takes it back; a weight reflected by the dot action has the same dominant form and the other sign. Condition: the weight's numbers lie between -4 and 4, as they are drawn. -/
import Derived.Test.YtdboknhjbjibjaaJDotDom
import Derived.Test.YtdboknhjbjibjaaJTwo
import Derived.Test.YtdboknhjbjibjaaJDots
namespace Go.Proofs.Ytdboknhjbjibjaa
open Go.RowKit
set_option maxRecDepth 20000

theorem allB_rev {p : Int → Bool} {l : List Int} (h : allB p l = true) : allB p l.reverse = true := allB_iff.2 fun x hx => allB_iff.1 h x (List.mem_reverse.1 hx)
theorem isWd_rev {c : List (List Int)} {w : List Int} (h : isWd c w = true) : isWd c w.reverse = true := by
  unfold isWd at h ⊢
  simp only [Bool.and_eq_true, decide_eq_true_eq, List.length_reverse] at h ⊢
  exact ⟨h.1, allB_rev h.2⟩
theorem ent_diag {c : List (List Int)} (h : isC c = true) (i : Nat) (hi : i < c.length) : ent c i i = 2 := by
  have := (isC_iff.1 h).ok i i hi hi
  rw [okE_diag] at this
  simpa using this
theorem ent_bound {c : List (List Int)} (h : CartanP c) {i j : Nat} (hi : i < c.length) (hj : j < c.length) : -3 ≤ ent c i j ∧ ent c i j ≤ 2 := by
  have := h.ok i j hi hj
  unfold okE at this
  split at this
  · simp at this; omega
  · simp at this; omega
theorem addW_ones : ∀ (v : List Int), addW v (List.replicate v.length 1) = v.map fun x => wrap64 (x + 1)
  | [] => rfl
  | x :: xs => by simp only [List.length_cons, List.replicate_succ, addW, List.map_cons, addW_ones xs]
theorem add_in (v : List Int) : In64 (v.map fun x => wrap64 (x + 1)) := fun x hx => by
  obtain ⟨y, _, rfl⟩ := List.mem_map.1 hx
  unfold wrap64
  omega
theorem map_id_in {f : Int → Int} : ∀ {l : List Int}, In64 l → (∀ x, -9223372036854775808 ≤ x ∧ x ≤ 9223372036854775807 → f x = x) → l.map f = l
  | [], _, _ => rfl
  | x :: xs, h, k => by rw [List.map_cons, k x (h x (List.mem_cons_self ..)), map_id_in (fun y hy => h y (List.mem_cons_of_mem _ hy)) k]
theorem add_less {l : List Int} {n : Nat} (hn : l.length = n) (h : In64 l) : addW (l.map less1) (List.replicate n 1) = l := by
  have e := addW_ones (l.map less1)
  rw [List.length_map, hn] at e
  rw [e, List.map_map]
  exact map_id_in h fun x hx => by show wrap64 (less1 x + 1) = x; unfold less1 wrap64; omega
theorem less_add {l : List Int} {n : Nat} (hn : l.length = n) (h : In64 l) : (addW l (List.replicate n 1)).map less1 = l := by
  subst hn
  rw [addW_ones, List.map_map]
  exact map_id_in h fun x hx => by show less1 (wrap64 (x + 1)) = x; unfold less1 wrap64; omega
theorem dot_wd {c : List (List Int)} {w v : List Int} (h : isWd c w = true) (hl : v.length = c.length) : dot c w v = (act c w (addW v (List.replicate c.length 1))).map less1 := by
  unfold dot; rw [h]; simp [hl]
theorem dot_length {c : List (List Int)} {w v : List Int} : (dot c w v).length = v.length := by
  unfold dot
  split
  · rename_i h
    simp only [Bool.and_eq_true, decide_eq_true_eq] at h
    rw [List.length_map, act_length, addW_length, List.length_replicate, h.2]
    omega
  · rfl
theorem dot_back {c : List (List Int)} {w v : List Int} (h : isWd c w = true) (hl : v.length = c.length) (hv : In64 v) : dot c w.reverse (dot c w v) = v := by
  obtain ⟨hc, _, hw⟩ := isWd_parts h
  have hA : In64 (addW v (List.replicate c.length 1)) := by rw [← hl, addW_ones]; exact add_in v
  have hAl : (addW v (List.replicate c.length 1)).length = c.length := by rw [addW_length, List.length_replicate, hl]; omega
  rw [dot_wd (isWd_rev h) (by rw [dot_length]; exact hl), dot_wd h hl, add_less (by rw [act_length]; exact hAl) (act_in hA), act_back (ent_diag hc) hw hAl hA]
  exact less_add hl hv
theorem sgL_odd {a b : Nat} (h : (a + b) % 2 = 1) : sgL a = -sgL b := by
  unfold sgL
  by_cases ha : a % 2 = 0
  · rw [if_pos ha, if_neg (by omega)]; rfl
  · rw [if_neg ha, if_pos (by omega)]
theorem num_in {P : Int → Prop} {v : List Int} (hv : ∀ x ∈ v, P x) (h0 : P 0) (i : Nat) : P (num v i) := by
  unfold num
  cases e : v[i]? with
  | none => exact h0
  | some x => exact hv x (List.mem_of_getElem? e)
theorem refl_small {c : List (List Int)} (hc : CartanP c) {i : Nat} (hi : i < c.length) {v : List Int} (hl : v.length = c.length) (hv : ∀ x ∈ v, -5 ≤ x ∧ x ≤ 5) : ∀ x ∈ refl c i v, -20 ≤ x ∧ x ≤ 20 := fun x hx => by
  obtain ⟨j, hj⟩ := List.getElem?_of_mem hx
  unfold refl at hj
  rw [reflL_at] at hj
  obtain ⟨y, hy, e⟩ := Option.map_eq_some_iff.1 hj
  have hy1 := hv y (List.mem_of_getElem? hy)
  have hjl := (List.getElem?_eq_some_iff.1 hy).1
  have hn : -5 ≤ num v i ∧ num v i ≤ 5 := num_in hv (by omega) i
  obtain ⟨a1, a2⟩ := ent_bound hc (show 0 + j < c.length by omega) hi
  have : ent c (0 + j) i = -3 ∨ ent c (0 + j) i = -2 ∨ ent c (0 + j) i = -1 ∨ ent c (0 + j) i = 0 ∨ ent c (0 + j) i = 1 ∨ ent c (0 + j) i = 2 := by omega
  subst e
  generalize ent c (0 + j) i = q at *
  generalize num v i = p at *
  clear hj hx hy hv
  have hb : -15 ≤ p * q ∧ p * q ≤ 15 := by rcases this with rfl | rfl | rfl | rfl | rfl | rfl <;> omega
  generalize p * q = s at *
  have e1 : wrap64 s = s := by unfold wrap64; omega
  have e2 : wrap64 (y - s) = y - s := by unfold wrap64; omega
  rw [e1, e2]
  omega
theorem dd_parts {c : List (List Int)} {u : List Int} (hk : ddOk c u = true) : isW c u = true ∧ domOk c (wRho c u) = true := by
  unfold ddOk at hk
  simpa using hk
theorem dd2_ne {c : List (List Int)} {u : List Int} (hk : ddOk c u = true) (h2 : dd2 c u ≠ 0) : ¬ (0 : Int) ∈ dmL c (wRho c u) ∧ dd1 c u = (dmL c (wRho c u)).map less1 ∧ dd2 c u = sgL (nf c 30 (wRho c u)).length := by
  have hd := (dd_parts hk).2
  have e1 : dom1 c (wRho c u) = dmL c (wRho c u) := by unfold dom1; rw [if_pos hd]
  have e2 : dom2 c (wRho c u) = nf c 30 (wRho c u) := by unfold dom2; rw [if_pos hd]
  have hz : ¬ (0 : Int) ∈ dmL c (wRho c u) := fun hz => h2 (by unfold dd2; rw [if_pos hk, e1, if_pos hz])
  exact ⟨hz, by unfold dd1; rw [if_pos hk, e1, if_neg hz], by unfold dd2; rw [if_pos hk, e1, if_neg hz, e2]⟩
theorem dd_dot {c : List (List Int)} {u : List Int} {i : Nat} (hi : i < c.length) (hk : ddOk c u = true) (h2 : dd2 c u ≠ 0) (hu : ∀ x ∈ u, -4 ≤ x ∧ x ≤ 4) :
    ddOk c (dot c [(i : Int)] u) = true ∧ dd1 c (dot c [(i : Int)] u) = dd1 c u ∧ dd2 c (dot c [(i : Int)] u) = -dd2 c u := by
  obtain ⟨hW, hD⟩ := dd_parts hk
  obtain ⟨hc, hl, _⟩ := isW_len hW
  have hC : isC c = true := isC_iff.2 hc
  have hwd : isWd c [(i : Int)] = true := by
    unfold isWd
    rw [hC]
    have : ptB c (i : Int) = true := by unfold ptB; exact inR_yes (by omega)
    simp [allB, this]
  have hRl : (wRho c u).length = c.length := by unfold wRho; rw [addW_length, List.length_replicate, hl]; omega
  have hR5 : ∀ x ∈ wRho c u, -5 ≤ x ∧ x ≤ 5 := fun x hx => by
    unfold wRho at hx
    rw [← hl, addW_ones] at hx
    obtain ⟨y, hy, rfl⟩ := List.mem_map.1 hx
    have := hu y hy
    unfold wrap64
    omega
  have e0 : dot c [(i : Int)] u = (refl c i (wRho c u)).map less1 := by rw [dot_wd hwd hl]; simp [act, wRho]
  have hsm := refl_small hc hi hRl hR5
  have e1 : wRho c (dot c [(i : Int)] u) = refl c i (wRho c u) := by
    rw [e0]
    exact add_less (by rw [refl_length]; exact hRl) refl_in
  have hF : finB c = true := by unfold domOk at hD; simp only [Bool.and_eq_true] at hD; exact hD.2
  have hW2 : isW c (dot c [(i : Int)] u) = true := by
    unfold isW
    rw [hC, dot_length, hl, e0]
    simp only [decide_true, Bool.true_and, Bool.and_true]
    refine allB_iff.2 fun x hx => ?_
    obtain ⟨y, hy, rfl⟩ := List.mem_map.1 hx
    have := hsm y hy
    unfold wtB
    refine inR_yes ?_
    unfold less1 wrap64
    omega
  have hD2 : domOk c (refl c i (wRho c u)) = true := by
    unfold domOk
    rw [hF, Bool.and_true]
    unfold isW
    rw [hC, refl_length, hRl]
    simp only [decide_true, Bool.true_and, Bool.and_true]
    refine allB_iff.2 fun x hx => ?_
    have := hsm x hx
    unfold wtB
    exact inR_yes (by omega)
  have hk2 : ddOk c (dot c [(i : Int)] u) = true := by unfold ddOk; rw [hW2, e1, hD2]; rfl
  obtain ⟨z1, z2, z3⟩ := dd2_ne hk h2
  obtain ⟨_, _, hT, hS⟩ := domOk_parts hD
  have s1 := dots_same hT hc hS.1 hi
  have s2 := dots_par hT hc hS.1 hi z1
  have f1 : dom1 c (wRho c (dot c [(i : Int)] u)) = dmL c (wRho c u) := by rw [e1]; unfold dom1; rw [if_pos hD2, s1]
  have f2 : dom2 c (wRho c (dot c [(i : Int)] u)) = nf c 30 (refl c i (wRho c u)) := by rw [e1]; unfold dom2; rw [if_pos hD2]
  refine ⟨hk2, ?_, ?_⟩
  · rw [z2]; unfold dd1; rw [if_pos hk2, f1, if_neg z1]
  · rw [z3]; unfold dd2; rw [if_pos hk2, f1, if_neg z1, f2]; exact sgL_odd s2
theorem dd_dom {c : List (List Int)} {u : List Int} (hk : ddOk c u = true) (h2 : dd2 c u ≠ 0) : ∀ x ∈ dd1 c u, 0 ≤ x := fun x hx => by
  obtain ⟨z1, z2, z3⟩ := dd2_ne hk h2
  obtain ⟨_, hc, hT, hS⟩ := domOk_parts (dd_parts hk).2
  obtain ⟨hl, _, _⟩ := isW_len (dd_parts hk).1
  have hd := (dm_ok' hT hc hS.1).1
  rw [z2] at hx
  obtain ⟨y, hy, rfl⟩ := List.mem_map.1 hx
  have h0 := firstN_none.1 hd y hy
  have h1 : y ≠ 0 := fun e => z1 (e ▸ hy)
  have hin : In64 (dmL c (wRho c u)) := by
    unfold dmL
    refine act_in fun z hz => ?_
    unfold wRho at hz
    have hlen := (isW_len (dd_parts hk).1).2.1
    rw [← hlen, addW_ones] at hz
    exact add_in u z hz
  have := hin y hy
  unfold less1 wrap64
  omega
end Go.Proofs.Ytdboknhjbjibjaa
