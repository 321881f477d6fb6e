/- Places that arrows reach, and the sets of places that reach one another: marks and a queue. Plain lists. What arrows reach from a place, by the reference. Condition: at most 24 places, 576 arrows. The left cells of a small group, by the reference. Condition: sizes up to 2^24. -/
import Derived.Test.YtipjomdldjbenaaGreatDoorRGBase
import Derived.Test.YtipjomdldjbenaaGreatDoorRGWgP
import Derived.Test.YtipjomdldjbenaaGreatDoorRGGt
import Derived.Deep.RegionHeld3
import Derived.Test.YtipjomdldjbenaaGreatDoorRGWgS
namespace Go.Proofs.YtipjomdldjbenaaGreatDoor
open Go.RowKit
set_option maxRecDepth 20000
abbrev Bq := List Bool × List Nat
def brStep (st : Bq) (j : Nat) : Bq := if st.1[j]? = some false then (st.1.set j true, st.2 ++ [j]) else st
def brRow (nx : Nat → List Nat) (q : Nat) (st : Bq) : Bq := (nx q).foldl brStep st
def brBfs (nx : Nat → List Nat) : Nat → Nat → Bq → Bq
 | 0, _, st => st
 |f + 1, k, st => match st.2[k]? with
  | none => st
  | some q => brBfs nx f (k + 1) (brRow nx q st)
def br0 (n x : Nat) : Bq := ((List.replicate n false).set x true, [x])
def brAll (nx : Nat → List Nat) (n x : Nat) : List Bool := (brBfs nx (n + 1) 0 (br0 n x)).1
inductive Rcx (nx : Nat → List Nat) (x : Nat) : Nat → Prop
 | start : Rcx nx x x
 | more {y z : Nat} : Rcx nx x y → z ∈ nx y → Rcx nx x z
theorem Rcx.trans {nx : Nat → List Nat} {x y z : Nat} (h : Rcx nx x y) (k : Rcx nx y z) : Rcx nx x z := by
 induction k with
 | start => exact h
 | more _ hz ih => exact ih.more hz
structure BrOk (n : Nat) (st : Bq) : Prop where
 len : st.1.length = n
 nd : st.2.Nodup
 mem : ∀ y, st.1[y]? = some true ↔ y ∈ st.2
theorem brOk0 {n x : Nat} (hx : x < n) : BrOk n (br0 n x) := by
 refine ⟨by simp [br0], by simp [br0], fun y => ?_⟩
 unfold br0
 by_cases h : y = x
 ·subst h; simp [hx]
 ·rw [List.getElem?_set_ne (Ne.symm h), List.getElem?_replicate]
  simp only [List.mem_singleton, h, iff_false]
  split <;> simp
theorem brStep_ok {n : Nat} {st : Bq} (h : BrOk n st) {j : Nat} (hj : j < n) : BrOk n (brStep st j) ∧ (∀ y, y ∈ (brStep st j).2 ↔ y ∈ st.2 ∨ y = j) ∧ ∃ T, (brStep st j).2 = st.2 ++ T := by
 unfold brStep
 by_cases hf : st.1[j]? = some false
 ·rw [if_pos hf]
  have hnot : j ∉ st.2 := fun hm => by rw [(h.mem j).2 hm] at hf; cases hf
  refine ⟨⟨by rw [List.length_set]; exact h.len, ?_, fun y => ?_⟩, fun y => by simp, _, rfl⟩
  ·rw [List.nodup_append]
   exact ⟨h.nd, by simp, fun a ha b hb e => by simp only [List.mem_singleton] at hb; subst hb; subst e; exact hnot ha⟩
  ·by_cases e : y = j
   ·subst e
    rw [List.getElem?_set_self (by rw [h.len]; exact hj)]
    simp
   ·rw [List.getElem?_set_ne (Ne.symm e), h.mem]
    simp [e]
 ·rw [if_neg hf]
  have ht : st.1[j]? = some true := by
   have hl : j < st.1.length := by rw [h.len]; exact hj
   rw [List.getElem?_eq_getElem hl] at hf ⊢
   cases e : st.1[j] with
   | true => rfl
   | false => rw [e] at hf; exact absurd rfl hf
  have hm := (h.mem j).1 ht
  exact ⟨h, fun y => ⟨.inl, fun hy => hy.elim id (fun e => e ▸ hm)⟩, [], by simp⟩
theorem brRow_ok {n : Nat} : ∀ {L : List Nat} {st : Bq}, BrOk n st → (∀ j ∈ L, j < n) → BrOk n (L.foldl brStep st) ∧ (∀ y, y ∈ (L.foldl brStep st).2 ↔ y ∈ st.2 ∨ y ∈ L) ∧ ∃ T, (L.foldl brStep st).2 = st.2 ++ T
 | [], st, h, _ => ⟨h, fun y => by simp, [], by simp⟩
 | j :: L, st, h, hL => by
  obtain ⟨h1, h2, T1, h3⟩ := brStep_ok h (hL j (List.mem_cons_self ..))
  obtain ⟨k1, k2, T2, k3⟩ := brRow_ok (L := L) h1 (fun i hi => hL i (List.mem_cons_of_mem _ hi))
  refine ⟨k1, fun y => ?_, T1 ++ T2, by rw [List.foldl_cons, k3, h3, List.append_assoc]⟩
  rw [List.foldl_cons, k2, h2, List.mem_cons]
  exact or_assoc
theorem nodup_few : ∀ {n : Nat} {l : List Nat}, l.Nodup → (∀ x ∈ l, x < n) → l.length ≤ n
 | 0, l, _, h => by
  cases l with
  | nil => simp
  | cons a l => have := h a (List.mem_cons_self ..); omega
 | n + 1, l, hn, h => by
  have h1 := nodup_few (n := n) (l := l.erase n) (hn.erase n) (fun x hx => by
   have := h x (List.mem_of_mem_erase hx)
   have h2 : x ≠ n := fun e => by subst e; exact (List.Nodup.not_mem_erase hn) hx
   omega)
  rw [List.length_erase] at h1
  split at h1 <;> omega
theorem BrOk.lt {n : Nat} {st : Bq} (h : BrOk n st) {y : Nat} (hy : y ∈ st.2) : y < n := by
 have := (h.mem y).2 hy
 rw [← h.len]
 exact (List.getElem?_eq_some_iff.1 this).1
theorem BrOk.few {n : Nat} {st : Bq} (h : BrOk n st) : st.2.length ≤ n := nodup_few h.nd (fun _ hx => h.lt hx)
theorem brBfs_ok {nx : Nat → List Nat} {n x : Nat} (hnx : ∀ q, q < n → ∀ j ∈ nx q, j < n) : ∀ (f k : Nat) {st : Bq}, n + 1 ≤ f + k → BrOk n st → x ∈ st.2 → (∀ y ∈ st.2, Rcx nx x y) → (∀ j q, j < k → st.2[j]? = some q → ∀ z ∈ nx q, z ∈ st.2) →
  BrOk n (brBfs nx f k st) ∧ ∀ y, y ∈ (brBfs nx f k st).2 ↔ Rcx nx x y
 | 0, k, st, hf, h, hx, hr, hc => by
  have hk : st.2.length ≤ k := by have := h.few; omega
  refine ⟨h, fun y => ⟨hr y, fun hy => ?_⟩⟩
  show y ∈ st.2
  induction hy with
  | start => exact hx
  | more _ hz ih =>
   obtain ⟨j, hj, e⟩ := List.getElem_of_mem ih
   exact hc j _ (by omega) (by rw [List.getElem?_eq_getElem hj, e]) _ hz
 | f + 1, k, st, hf, h, hx, hr, hc => by
  unfold brBfs
  cases hq : st.2[k]? with
  | none =>
   have hk : st.2.length ≤ k := by rw [List.getElem?_eq_none_iff] at hq; exact hq
   refine ⟨h, fun y => ⟨hr y, fun hy => ?_⟩⟩
   show y ∈ st.2
   induction hy with
   | start => exact hx
   | more _ hz ih =>
    obtain ⟨j, hj, e⟩ := List.getElem_of_mem ih
    exact hc j _ (by omega) (by rw [List.getElem?_eq_getElem hj, e]) _ hz
  | some q =>
   have hqm := List.mem_of_getElem? hq
   obtain ⟨h1, h2, T, h3⟩ := brRow_ok (L := nx q) h (hnx q (h.lt hqm))
   refine brBfs_ok hnx f (k + 1) (by omega) h1 ((h2 x).2 (.inl hx)) (fun y hy => ?_) (fun j q' hj hq' z hz => ?_)
   ·rcases (h2 y).1 hy with hy | hy
    ·exact hr y hy
    ·exact (hr q hqm).more hy
   ·show z ∈ ((nx q).foldl brStep st).2
    rw [h2]
    have hq' : ((nx q).foldl brStep st).2[j]? = some q' := hq'
    have hjl : j < st.2.length := by have := (List.getElem?_eq_some_iff.1 hq).1; omega
    rw [h3, List.getElem?_append_left hjl] at hq'
    rcases Nat.lt_or_ge j k with hjk | hjk
    ·exact .inl (hc j q' hjk hq' z hz)
    ·have : j = k := by omega
     subst this
     rw [hq] at hq'
     cases hq'
     exact .inr hz
theorem brAll_ok {nx : Nat → List Nat} {n x : Nat} (hnx : ∀ q, q < n → ∀ j ∈ nx q, j < n) (hx : x < n) : (brAll nx n x).length = n ∧ ∀ y, (brAll nx n x)[y]? = some true ↔ Rcx nx x y := by
 obtain ⟨h1, h2⟩ := brBfs_ok (x := x) hnx (n + 1) 0 (by omega) (brOk0 hx) (by simp [br0]) (fun y hy => by simp [br0] at hy; subst hy; exact .start) (fun j q hj => by omega)
 exact ⟨h1.len, fun y => by rw [← h2 y]; exact h1.mem y⟩
def mutB (nx : Nat → List Nat) (n i k : Nat) : Bool := ((brAll nx n i)[k]?).getD false && ((brAll nx n k)[i]?).getD false
theorem getD_true {l : List Bool} {k : Nat} : (l[k]?).getD false = true ↔ l[k]? = some true := by
 cases l[k]? <;> simp
theorem mutB_iff {nx : Nat → List Nat} {n i k : Nat} (hnx : ∀ q, q < n → ∀ j ∈ nx q, j < n) (hi : i < n) (hk : k < n) : mutB nx n i k = true ↔ Rcx nx i k ∧ Rcx nx k i := by
 unfold mutB
 rw [Bool.and_eq_true, getD_true, getD_true, (brAll_ok hnx hi).2, (brAll_ok hnx hk).2]
structure EqvB (n : Nat) (m : Nat → Nat → Bool) : Prop where
 self : ∀ i, i < n → m i i = true
 symm : ∀ i k, i < n → k < n → m i k = true → m k i = true
 trans : ∀ i k j, i < n → k < n → j < n → m i k = true → m k j = true → m i j = true
theorem mutB_eqv {nx : Nat → List Nat} {n : Nat} (hnx : ∀ q, q < n → ∀ j ∈ nx q, j < n) : EqvB n (mutB nx n) :=
 ⟨fun _ hi => (mutB_iff hnx hi hi).2 ⟨.start, .start⟩, fun _ _ hi hk h => (mutB_iff hnx hk hi).2 ((mutB_iff hnx hi hk).1 h).symm,
  fun _ _ _ hi hk hj h h' => (mutB_iff hnx hi hj).2 ⟨((mutB_iff hnx hi hk).1 h).1.trans ((mutB_iff hnx hk hj).1 h').1, ((mutB_iff hnx hk hj).1 h').2.trans ((mutB_iff hnx hi hk).1 h).2⟩⟩
def celOf (m : Nat → Nat → Bool) (n i : Nat) : List Nat := (List.range n).filter (m i)
def celS (m : Nat → Nat → Bool) (n : Nat) : Nat → List (List Nat)
 | 0 => []
 | i + 1 => if (celOf m n i)[0]? = some i then celS m n i ++ [celOf m n i] else celS m n i
def markL : List Nat → List Bool → List Bool
 | [], s => s
 | j :: l, s => markL l (s.set j true)
def celI (m : Nat → Nat → Bool) (n : Nat) : Nat → List Bool × List (List Nat)
 | 0 => (List.replicate n false, [])
 | i + 1 => if ((celI m n i).1[i]?).getD false then celI m n i else (markL (celOf m n i) (celI m n i).1, (celI m n i).2 ++ [celOf m n i])
theorem markL_len : ∀ (l : List Nat) (s : List Bool), (markL l s).length = s.length
 | [], _ => rfl
 | j :: l, s => by show (markL l (s.set j true)).length = _; rw [markL_len l, List.length_set]
theorem markL_get : ∀ {l : List Nat} {s : List Bool}, (∀ j ∈ l, j < s.length) → ∀ k, (markL l s)[k]? = if k ∈ l then some true else s[k]?
 | [], s, _, k => by simp [markL]
 | j :: l, s, h, k => by
  show (markL l (s.set j true))[k]? = _
  rw [markL_get (fun i hi => by rw [List.length_set]; exact h i (List.mem_cons_of_mem _ hi))]
  by_cases e : k = j
  ·subst e
   rw [List.getElem?_set_self (h k (List.mem_cons_self ..)), if_pos (List.mem_cons_self ..)]
   split <;> rfl
  ·rw [List.getElem?_set_ne (Ne.symm e)]
   simp [e]
theorem mem_cel {m : Nat → Nat → Bool} {n i k : Nat} : k ∈ celOf m n i ↔ k < n ∧ m i k = true := by unfold celOf; simp
theorem cel_head {m : Nat → Nat → Bool} {n i : Nat} (h : EqvB n m) (hi : i < n) : ∃ a, (celOf m n i)[0]? = some a ∧ a ≤ i ∧ m i a = true ∧ ∀ k, k < n → m i k = true → a ≤ k := by
 have him : i ∈ celOf m n i := mem_cel.2 ⟨hi, h.self i hi⟩
 have hs : (celOf m n i).Pairwise (· < ·) := List.Pairwise.filter _ List.pairwise_lt_range
 cases e : celOf m n i with
 | nil => rw [e] at him; simp at him
 | cons a l =>
  rw [e] at hs
  have hle : ∀ k ∈ a :: l, a ≤ k := fun k hk => by
   rcases List.mem_cons.1 hk with rfl | hk
   ·exact Nat.le_refl _
   ·exact Nat.le_of_lt ((List.pairwise_cons.1 hs).1 k hk)
  have ha : a ∈ celOf m n i := by rw [e]; exact List.mem_cons_self ..
  exact ⟨a, rfl, hle i (e ▸ him), (mem_cel.1 ha).2, fun k hk hm => hle k (e ▸ mem_cel.2 ⟨hk, hm⟩)⟩
theorem cel_same {m : Nat → Nat → Bool} {n : Nat} (h : EqvB n m) : ∀ i, i ≤ n → (celI m n i).2 = celS m n i ∧ (celI m n i).1.length = n ∧ ∀ k, k < n → ((celI m n i).1[k]? = some true ↔ ∃ i', i' < i ∧ m i' k = true)
 | 0, _ => ⟨rfl, by simp [celI], fun k hk => by simp [celI, hk]⟩
 | i + 1, hi => by
  obtain ⟨h1, h2, h3⟩ := cel_same h i (by omega)
  obtain ⟨a, ha, hai, hma, hmin⟩ := cel_head h (show i < n by omega)
  have han : a < n := by omega
  unfold celI celS
  rw [ha]
  by_cases hs : ((celI m n i).1[i]?).getD false = true
  ·rw [if_pos hs]
   obtain ⟨i', hi', hm'⟩ := (h3 i (by omega)).1 (getD_true.1 hs)
   have : a ≤ i' := hmin i' (by omega) (h.symm i' i (by omega) (by omega) hm')
   rw [if_neg (by simp only [Option.some.injEq]; omega)]
   refine ⟨h1, h2, fun k hk => ⟨fun hk' => ?_, fun ⟨j, hj, hm⟩ => ?_⟩⟩
   ·obtain ⟨j, hj, hm⟩ := (h3 k hk).1 hk'
    exact ⟨j, by omega, hm⟩
   ·rcases Nat.lt_or_ge j i with hlt | hge
    ·exact (h3 k hk).2 ⟨j, hlt, hm⟩
    ·have : j = i := by omega
     subst this
     exact (h3 k hk).2 ⟨i', hi', h.trans i' j k (by omega) (by omega) hk hm' hm⟩
  ·rw [if_neg hs]
   have hai' : a = i := by
    rcases Nat.lt_or_ge a i with hlt | hge
    ·exact absurd (getD_true.2 ((h3 i (by omega)).2 ⟨a, hlt, h.symm i a (by omega) han hma⟩)) hs
    ·omega
   subst hai'
   rw [if_pos rfl]
   refine ⟨by rw [h1], by rw [markL_len]; exact h2, fun k hk => ?_⟩
   show (markL (celOf m n a) (celI m n a).1)[k]? = some true ↔ _
   rw [markL_get (fun j hj => by rw [h2]; exact (mem_cel.1 hj).1)]
   by_cases hc : k ∈ celOf m n a
   ·rw [if_pos hc]
    exact ⟨fun _ => ⟨a, by omega, (mem_cel.1 hc).2⟩, fun _ => rfl⟩
   ·rw [if_neg hc, h3 k hk]
    exact ⟨fun ⟨j, hj, hm⟩ => ⟨j, by omega, hm⟩, fun ⟨j, hj, hm⟩ => by
     rcases Nat.lt_or_ge j a with hlt | hge
     ·exact ⟨j, hlt, hm⟩
     ·have : j = a := by omega
      subst this
      exact absurd (mem_cel.2 ⟨hk, hm⟩) hc⟩
def nxA (L : List Arw) (q : Nat) : List Nat := (L.filter fun a => decide (a.1 = q)).map fun a => a.2.1
def arStep (q : Nat) (st : Bq) (a : Arw) : Bq := if a.1 = q then brStep st a.2.1 else st
theorem arStep_row (q : Nat) : ∀ (L : List Arw) (st : Bq), L.foldl (arStep q) st = brRow (nxA L) q st
 | [], st => rfl
 | a :: L, st => by
  rw [List.foldl_cons, arStep_row q L]
  unfold brRow nxA arStep
  by_cases h : a.1 = q
  ·rw [if_pos h, List.filter_cons_of_pos (by simpa using h), List.map_cons, List.foldl_cons]
  ·rw [if_neg h, List.filter_cons_of_neg (by simpa using h)]
theorem nxA_lt {L : List Arw} {n : Nat} (hL : ∀ a ∈ L, a.1 < n ∧ a.2.1 < n) (q : Nat) : ∀ j ∈ nxA L q, j < n := fun j hj => by
 obtain ⟨a, ha, rfl⟩ := List.mem_map.1 hj
 exact (hL a (List.mem_filter.1 ha).1).2
structure RcOk (n k q : Nat) (st : Bq) : Prop where
 ok : BrOk n st
 pos : st.2[k]? = some q
theorem arStep_ok {n k q : Nat} {st : Bq} (h : RcOk n k q st) {a : Arw} (ha : a.2.1 < n) : RcOk n k q (arStep q st a) := by
 unfold arStep
 split
 ·obtain ⟨h1, _, T, h2⟩ := brStep_ok h.ok ha
  refine ⟨h1, ?_⟩
  rw [h2, List.getElem?_append_left (List.getElem?_eq_some_iff.1 h.pos).1]
  exact h.pos
 ·exact h
theorem bq_map {l : List Nat} {k q : Nat} (h : l[k]? = some q) : (l.map fun (j : Nat) => (j : Int))[k]? = some (q : Int) := by rw [List.getElem?_map, h]; rfl
theorem HSx.madeB {A : Nat → Prop} {w0 w w2 : World} {Ps : List Thing} {n : Nat} (h : HSx A w0 w Ps) (hown : w2.ownsRow w.heap.size 4 1 (.slice (some ⟨w.heap.size, 0, none⟩) n n) n (madeCells #[.bool false] n).toList) (hgr : w.grownBy w2 none) :
  HSx A w0 w2 (Ps ++ [aB (.slice (some ⟨w.heap.size, 0, none⟩) n n) (List.replicate n false)]) := by
 have hb1 : Below w.heap.size w w2 := (Below.refl _ w).grown hgr (Nat.le_refl _) (by simp)
 have hsz : w.heap.size < w2.heap.size := (hown.lt _ rfl).2
 have e1 : (madeCells #[.bool false] n).toList = (List.replicate n false).map Value.bool := by rw [toList_madeCells_one, List.map_replicate]
 rw [e1] at hown
 exact h.add hb1 (st_B _ _) (F := fun b => b = w.heap.size) ⟨by rw [List.length_replicate]; exact own_base hown (Nat.zero_le _), fun b hb => by simpa [Value.ownBlock] using hb.symm⟩ (fun b hb => by subst hb; exact ⟨Nat.le_refl _, hsz⟩)
theorem freshI1 {A : Nat → Prop} {w0 w w1 : World} {Ps : List Thing} (h : HSx A w0 w Ps) (x : Int) (hw : w1 = w.alloc (.cells #[.int .i64 x] 3)) : HSx A w0 w1 (Ps ++ [aI (.slice (some ⟨w.heap.size, 0, none⟩) 1 1) [x]]) := by
 subst hw
 refine h.add ((Below.refl _ _).alloc (Nat.le_refl _) _) (st_I _ _) (F := fun b => b = w.heap.size) ⟨?_, fun b hb => by simpa [Value.ownBlock] using hb.symm⟩ (fun b hb => by subst hb; exact ⟨Nat.le_refl _, by simp⟩)
 exact World.ownsRow_lit (base := 0) (e := 3) (size := 1) w #[.int .i64 x] 1 (Nat.zero_le _) (by unfold maxLen; omega) rfl
set_option maxHeartbeats 8000000 in
theorem reachSpec {S : Nat → Prop} {va : Value} {L : List Arw} {n x : Nat} {w : World} (hA : FA S w va L) (hL : ∀ a ∈ L, a.1 < n ∧ a.2.1 < n) (hx : x < n) (hn : n ≤ 24) (hm : L.length ≤ 576) :
  Calls Tryz.prog 81 #[va, .int .i64 n, .int .i64 x] w fun e w' => ∃ r, e = .returned r ∧ FBo (New w w') w' r (brAll (nxA L) n x) ∧ Below w.heap.size w w' := by
 have mixed : Tryz.prog.follows .mixedOrders = true := by kernel_rfl
 obtain ⟨aa, ca, rfl⟩ := F3.form hA
 have HA := Lib.hid (fun (wv : World) (hb : Below w.heap.size w wv) => F3.below hA hb)
 have HLT := Lib.hid hL
 have HOUT : Hid (brAll (nxA L) n x = (brBfs (nxA L) (n + 1) 0 (br0 n x)).1) := Lib.hid rfl
 have HROW := Lib.hid (fun q st => arStep_row q L st)
 have HOK0 : Hid (brBfs (nxA L) (n + 1 - 0) 0 (br0 n x) = brBfs (nxA L) (n + 1) 0 (br0 n x) ∧ BrOk n (br0 n x)) := Lib.hid ⟨rfl, brOk0 hx⟩
 have HB0 : Hid (br0 n x = ((List.replicate n false).set x true, [x])) := Lib.hid rfl
 obtain ⟨i0, hi0, hz0, hz1, hz2⟩ := info_parts infoBool
 unfold FA at hA
 generalize hml : L.length = m at *
 have HML := Lib.hid hml
 have i1 : (x : Int) < (n : Int) := by omega
 have i2 : (0 : Int) ≤ (x : Int) := by omega
 clear hA hL hml
 go_enter Tryz.func81, Tryz.ntmps81
 go_wp2_with (at_make; (refine wpList_make_full _ rfl _ _ 76 rfl w.heap.size 4 i0 (.bool false) 1 Tryz.underlying76 hi0 hz0 hz1 _ _ _ _ n rfl rfl rfl rfl ?hb ?hm ?hs ?_))
 case hb => rw [hz2]; omega
 case hm => unfold maxLen; omega
 case hs => exact Nat.le_refl _
 intro w1 hown hgr
 have hs1 := HSx.madeB (HS.nil (Below.refl _ w)) hown hgr
 have hs1 : HS w w1 [aB (.slice (some ⟨w.heap.size, 0, none⟩) n n) (List.replicate n false)] := hs1
 obtain ⟨d1, d2⟩ := HS.cellB hs1 0 rfl (by simp) (j := x) (x := false) (by rw [List.getElem?_replicate, if_pos hx])
 have hs2 := HS.putB hs1 0 rfl (by simp) x true
 clear hown hgr hi0 hz0 hz1 hz2 hs1
 generalize hG : w.heap.size = G at *
 have HA := Lib.hid (fun (wv : World) (hb : Below w.heap.size w wv) => HA.out wv (by rw [← hG]; exact hb))
 have HG := Lib.hid hG
 clear hG
 obtain ⟨w3, hw3⟩ : ∃ w3, w3 = (w1.setCell ⟨G, x, none⟩ (.bool true)).alloc (.cells #[.int .i64 x] 3) := ⟨_, rfl⟩
 have hs3 := freshI1 hs2 (x : Int) hw3
 have hsz : (w1.setCell ⟨G, x, none⟩ (.bool true)).heap.size = w1.heap.size := size_setCell _ _ _
 rw [hsz] at hs3
 have hs3 : HS w w3 [aB (.slice (some ⟨G, 0, none⟩) n n) (br0 n x).1, aI (.slice (some ⟨w1.heap.size, 0, none⟩) 1 1) ((br0 n x).2.map fun (j : Nat) => (j : Int))] := by rw [HB0.out]; exact hs3
 have HW3 := Lib.hid hw3
 clear hs2 hw3 hsz HB0
 go_wp2_with fail
 rw [← HW3.out]
 clear d1 d2
 go_loopw [8, 9] (fun qq kk wr => ∃ (k : Nat) (vq : Value) (st : Bq), vq = qq ∧ k ≤ st.2.length ∧ k ≤ n ∧ kk = .int .i64 k ∧ HS w wr [aB (.slice (some ⟨G, 0, none⟩) n n) st.1, aI vq (st.2.map fun (j : Nat) => (j : Int))] ∧ Hid (brBfs (nxA L) (n + 1 - k) k st = brBfs (nxA L) (n + 1) 0 (br0 n x) ∧ BrOk n st)) (fun _ kk _ => n - (intOf kk).toNat)
 case atStart => exact ⟨0, _, _, rfl, Nat.zero_le _, Nat.zero_le _, rfl, hs3, HOK0⟩
 case round =>
  clear hs3 HOK0
  obtain ⟨k, vq, st, rfl, hks, hkn, rfl, hs, HOK⟩ := hrel
  obtain ⟨aq, cq, rfl⟩ := HS.formI hs 1 rfl
  rw [List.length_map] at hs ⊢
  have hfew := HOK.out.2.few
  by_cases hk : k < st.2.length
  ·have j1 : (k : Int) < (st.2.length : Int) := by omega
   obtain ⟨q, hq⟩ : ∃ q, st.2[k]? = some q := ⟨_, List.getElem?_eq_getElem hk⟩
   have HNEXT : Hid (brBfs (nxA L) (n + 1 - (k + 1)) (k + 1) (L.foldl (arStep q) st) = brBfs (nxA L) (n + 1) 0 (br0 n x)) := Lib.hid (by
    have h1 := HOK.out.1
    rw [show n + 1 - k = (n + 1 - (k + 1)) + 1 by omega] at h1
    unfold brBfs at h1
    rw [hq] at h1
    rw [HROW.out q st]
    exact h1)
   have HR0 : Hid (RcOk n k q ((L.take 0).foldl (arStep q) st)) := Lib.hid ⟨HOK.out.2, hq⟩
   have hs : HS w wr [aB (.slice (some ⟨G, 0, none⟩) n n) ((L.take 0).foldl (arStep q) st).1, aI (.slice aq st.2.length cq) (((L.take 0).foldl (arStep q) st).2.map fun (j : Nat) => (j : Int))] := hs
   have HFIN : Hid ((L.take m).foldl (arStep q) st = L.foldl (arStep q) st) := Lib.hid (by rw [List.take_of_length_le (by rw [HML.out]; exact Nat.le_refl _)])
   have HST := Lib.hid (fun (i : Nat) (a : Arw) (h : L[i]? = some a) => (show (L.take (i + 1)).foldl (arStep q) st = arStep q ((L.take i).foldl (arStep q) st) a by rw [take_step h, List.foldl_append]; rfl))
   clear HOK hq
   have hkn2 : k < n := by omega
   generalize hsl : st.2.length = sl at *
   clear hsl
   go_wp2_with fail
   go_loopw [8, 10] (fun qq ii wr => ∃ (i : Nat) (vq : Value), vq = qq ∧ i ≤ m ∧ ii = .int .i64 i ∧ HS w wr [aB (.slice (some ⟨G, 0, none⟩) n n) ((L.take i).foldl (arStep q) st).1, aI vq (((L.take i).foldl (arStep q) st).2.map fun (j : Nat) => (j : Int))] ∧ Hid (RcOk n k q ((L.take i).foldl (arStep q) st))) (fun _ ii _ => m - (intOf ii).toNat)
   case atStart => exact ⟨0, _, rfl, Nat.zero_le _, rfl, hs, HR0⟩
   case round =>
    clear hs HR0
    obtain ⟨i, vq, rfl, him, rfl, hs, HR⟩ := hrel
    by_cases hi : i < m
    ·have k1 : (i : Int) < (m : Int) := by omega
     have k2 : (0 : Int) ≤ (i : Int) := by omega
     have k3 : (0 : Int) ≤ (k : Int) := by omega
     obtain ⟨a, ha⟩ : ∃ a, L[i]? = some a := ⟨L[i]'(by rw [HML.out]; exact hi), List.getElem?_eq_getElem _⟩
     have HAI := Lib.hid ha
     obtain ⟨ha1, ha2⟩ := HLT.out a (List.mem_of_getElem? ha)
     have HS1 := Lib.hid (HST.out i a ha)
     obtain ⟨g, eg, _⟩ := F3.head (HA.out wr hs.bl) (by omega)
     subst eg
     obtain ⟨f1, f2, _⟩ := flatA_at ha
     have hf := HA.out wr hs.bl
     have c1 := F3.cell hf f1
     have c2 := F3.cell hf f2
     have HR2 := Lib.hid (arStep_ok HR.out (a := a) ha2)
     have HAS : Hid (∀ st : Bq, arStep q st a = if a.1 = q then brStep st a.2.1 else st) := Lib.hid (fun st => rfl)
     rw [← HS1.out] at HR2
     obtain ⟨f, t, mm⟩ := a
     simp only at ha1 ha2 c1 c2 HAS
     generalize hst2 : (L.take (i + 1)).foldl (arStep q) st = st2 at *
     have HST2 := Lib.hid hst2
     clear hst2
     generalize (L.take i).foldl (arStep q) st = st1 at *
     obtain ⟨aq1, cq1, rfl⟩ := HS.formI hs 1 rfl
     rw [List.length_map] at hs ⊢
     have hlen1 := HR.out.ok.few
     have hkl := (List.getElem?_eq_some_iff.1 HR.out.pos).1
     have HSI := Lib.hid hs
     obtain ⟨bq, cqq, eq1, _, _⟩ := HS.headI hs 1 rfl (by rw [List.length_map]; omega)
     simp only [Value.slice.injEq] at eq1
     obtain ⟨eq2, eq3, eq4⟩ := eq1
     subst eq2 eq4
     clear eq3
     obtain ⟨c3, _⟩ := HS.cellI hs 1 rfl (by rw [List.length_map]) (j := k) (x := (q : Int)) (bq_map HR.out.pos)
     obtain ⟨sb, hsb⟩ : ∃ sb, st1.1[t]? = some sb := ⟨_, List.getElem?_eq_getElem (by rw [HR.out.ok.len]; exact ha2)⟩
     have hl1 := HR.out.ok.len
     obtain ⟨c4, z4⟩ := HS.cellB hs 0 rfl hl1 hsb
     have k4 : (k : Int) < (st1.2.length : Int) := by omega
     have k5 : (t : Int) < (n : Int) := by omega
     have k6 : (0 : Int) ≤ (t : Int) := by omega
     have hs2L : Hid (st1.2.length ≤ 24) := Lib.hid (by omega)
     clear f1 f2 hf HST hlen1
     have HS1 := Lib.hid (HS1.out.trans (HAS.out st1))
     have HSB := Lib.hid hsb
     have HL1 := Lib.hid hl1
     clear HAS ha hsb hl1
     generalize hq1 : st1.2.length = l1 at *
     have HQ1 := Lib.hid hq1
     clear hq1
     have g1 := fun z : GW wr => z.cell c1
     have g2 := fun z : GW wr => z.cell c2
     have g3 := fun z : GW wr => z.cell c3
     have g4 := fun z : GW wr => z.cell c4
     by_cases hfq : f = q
     ·have e0 : ((f : Int) == (q : Int)) = true := by rw [beq_iff_eq]; omega
      have HS1 := Lib.hid (HS1.out.trans (if_pos hfq))
      cases sb with
      | true =>
       have HE : Hid (st2 = st1) := Lib.hid (by rw [HS1.out]; unfold brStep; rw [if_neg (by rw [HSB.out]; simp)])
       clear hfq
       go_wp2_with fail
       refine region_grow (by kernel_rfl) (by kernel_rfl) ?_
       repeat (go_big_quiet_step (fail))
       refine wpQuiet_nil ?_
       intro w6 hb6
       have hs6 := HSx.below hs hb6
       clear g1 g2 g3 g4 c1 c2 c3 c4 z4 hs hb6
       go_wp2_with fail
       go_roundw
       case rel => exact ⟨i + 1, _, rfl, by omega, by go_num, by rw [HST2.out, HE.out]; exact hs6, by rw [HST2.out]; exact HR2⟩
       case measure => simp [intOf]; omega
      | false =>
       have HE : Hid (st2 = (st1.1.set t true, st1.2 ++ [t])) := Lib.hid (by rw [HS1.out]; unfold brStep; rw [if_pos HSB.out])
       clear hfq
       go_wp2_with fail
       refine region_grow (by kernel_rfl) (by kernel_rfl) ?_
       repeat (go_big_quiet_step (fail))
       refine wpQuiet_nil ?_
       intro w6 hb6
       have hs6 := HSx.below hs hb6
       obtain ⟨d4, y4⟩ := HS.cellB hs6 0 rfl HL1.out HSB.out
       have d1 := F3.cell (HA.out w6 hs6.bl) (flatA_at (L := L) (k := i) (a := (f, t, mm)) HAI.out).2.1
       have hs7 := HS.putB hs6 0 rfl HL1.out t true
       have hs7 : HS w (w6.setCell ⟨G, t, none⟩ (.bool true)) [aB (.slice (some ⟨G, 0, none⟩) n n) (st1.1.set t true), aI (.slice (some ⟨bq, 0, none⟩) l1 cq1) (st1.2.map fun (j : Nat) => (j : Int))] := hs7
       have d2 := F3.cell (HA.out _ hs7.bl) (flatA_at (L := L) (k := i) (a := (f, t, mm)) HAI.out).2.1
       obtain ⟨w8, hw8⟩ : ∃ w8, w8 = (w6.setCell ⟨G, t, none⟩ (.bool true)).alloc (.cells #[.int .i64 t] 3) := ⟨_, rfl⟩
       have hs8 := HSx.alloc hs7 (.cells #[.int .i64 t] 3)
       rw [← hw8] at hs8
       have hsz : (w6.setCell ⟨G, t, none⟩ (.bool true)).heap.size = w6.heap.size := size_setCell _ _ _
       have hc8 : w8.cell? ⟨w6.heap.size, 0, none⟩ = some (.int .i64 t) := by rw [hw8, ← hsz]; go_simp
       have HW8 := Lib.hid hw8
       have HLN : Hid ((st1.2.map fun (j : Nat) => (j : Int)).length + 1 ≤ 67108864) := Lib.hid (by have := hs2L.out; have := HQ1.out; rw [List.length_map]; omega)
       have HE2 : Hid (st2.2.map (fun (j : Nat) => (j : Int)) = (st1.2.map fun (j : Nat) => (j : Int)) ++ [(t : Int)] ∧ st2.1 = st1.1.set t true) := Lib.hid (by rw [HE.out]; exact ⟨by simp, rfl⟩)
       clear g1 g2 g3 g4 c1 c2 c3 c4 z4 hs hb6 hw8 hs6 hs7 hsz
       go_wp2_with (at_builtin; go_must (rw [← HW8.out]; refine wpList_hsI rfl _ _ rfl rfl hs8 1 rfl rfl hc8 HLN.out ?_))
       intro v9 w9 hs9
       have hs9 : HS w w9 [aB (.slice (some ⟨G, 0, none⟩) n n) st2.1, aI v9 (st2.2.map fun (j : Nat) => (j : Int))] := by rw [HE2.out.1, HE2.out.2]; exact hs9
       clear hs8 hc8 d1 d2 d4 y4
       go_wp2_with fail
       go_roundw
       case rel => exact ⟨i + 1, v9, rfl, by omega, by go_num, by rw [HST2.out]; exact hs9, by rw [HST2.out]; exact HR2⟩
       case measure => simp [intOf]; omega
     ·have e0 : ((f : Int) == (q : Int)) = false := by rw [beq_eq_false_iff_ne]; omega
      have HE : Hid (st2 = st1) := Lib.hid (HS1.out.trans (if_neg hfq))
      clear hfq
      go_wp2_with fail
      refine region_grow (by kernel_rfl) (by kernel_rfl) ?_
      repeat (go_big_quiet_step (fail))
      refine wpQuiet_nil ?_
      intro w6 hb6
      have hs6 := HSx.below hs hb6
      clear g1 g2 g3 g4 c1 c2 c3 c4 z4 hs hb6
      go_wp2_with fail
      go_roundw
      case rel => exact ⟨i + 1, _, rfl, by omega, by go_num, by rw [HST2.out, HE.out]; exact hs6, by rw [HST2.out]; exact HR2⟩
      case measure => simp [intOf]; omega
    ·have k1 : ¬ (i : Int) < (m : Int) := by omega
     have him2 : i = m := by omega
     rw [him2, HFIN.out] at hs HR
     have HOKN : Hid (brBfs (nxA L) (n + 1 - (k + 1)) (k + 1) (L.foldl (arStep q) st) = brBfs (nxA L) (n + 1) 0 (br0 n x) ∧ BrOk n (L.foldl (arStep q) st)) := Lib.hid ⟨HNEXT.out, HR.out.ok⟩
     have hkl := (List.getElem?_eq_some_iff.1 HR.out.pos).1
     clear him2 HR HNEXT HFIN HST
     go_wp2_with fail
     go_roundw
     case rel => exact ⟨k + 1, vq, _, rfl, by omega, by omega, by go_num, hs, HOKN⟩
     case measure => simp [intOf]; omega
  ·have j1 : ¬ (k : Int) < (st.2.length : Int) := by omega
   have HE : Hid (st = brBfs (nxA L) (n + 1) 0 (br0 n x)) := Lib.hid (by
    have h1 := HOK.out.1
    rw [show n + 1 - k = (n - k) + 1 by omega] at h1
    unfold brBfs at h1
    rw [List.getElem?_eq_none (by omega)] at h1
    exact h1)
   rw [HE.out, ← HOUT.out] at hs
   have hfb := HS.B hs 0 rfl
   have hbl := hs.bl
   clear hs HE
   go_wp2_with fail
   go_ret
   exact ⟨_, rfl, hfb, hbl⟩
abbrev Zb := List (Value × List Bool)
abbrev aBr (Z : Zb) : Thing := fun F w => ∀ x ∈ Z, FBo F w x.1 x.2
theorem st_Br (Z : Zb) : Steady (aBr Z) := fun _ _ _ h k x hx => ⟨own_keep (h x hx).1 fun b hb => k b ((h x hx).2 b hb) ((h x hx).1.lt b hb).2, (h x hx).2⟩
theorem infoBools : (Tryz.prog.info? 76).map (fun i => (i.zero, i.size, i.bytes)) = some (some (.slice none 0 0), 1, 24) := by kernel_rfl
section
variable {A : Nat → Prop} {w0 w w1 : World} {Ps : List Thing}
theorem HSx.noBr (h : HSx A w0 w Ps) : HSx A w0 w (Ps ++ [aBr []]) := h.add (Below.refl _ w) (st_Br []) (F := NoB) (fun x hx => by simp at hx) (fun b hb => hb.elim)
theorem freshV0 (h : HSx A w0 w Ps) (e : TypeId) (hw : w1 = w.alloc (.cells #[] e)) : HSx A w0 w1 (Ps ++ [aV e (.slice (some ⟨w.heap.size, 0, none⟩) 0 0) []]) := by
 subst hw
 refine h.add ((Below.refl _ _).alloc (Nat.le_refl _) _) (st_V _ _ _) (F := fun b => b = w.heap.size) ⟨?_, fun b hb => by simpa [Value.ownBlock] using hb.symm⟩ (fun b hb => by subst hb; exact ⟨Nat.le_refl _, by simp⟩)
 exact World.ownsRow_lit (base := 0) (e := e) (size := 1) w #[] 0 (Nat.zero_le _) (by unfold maxLen; omega) rfl
theorem HSx.moreBr {Z : Zb} {r : Value} {l : List Bool} (h : HSx A w0 w Ps) (j k : Nat) (hjk : j ≠ k) (hj : Ps[j]? = some (aBr Z)) (hk : Ps[k]? = some (aB r l)) :
  HSx A w0 w ((Ps.set j (aBr (Z ++ [(r, l)]))).set k aTrue) := by
 refine h.join j k hjk hj hk (st_Br _) fun F G hF hG hd x hx => ?_
 rcases List.mem_append.1 hx with hx | hx
 ·exact FBo.mono (hF x hx) (fun b hb => .inl hb)
 ·rw [List.mem_singleton] at hx
  subst hx
  exact FBo.mono hG (fun b hb => .inr hb)
theorem HSx.cellBr {Z : Zb} {v : Value} {n : Nat} (h : HSx A w0 w Ps) (i j : Nat) (hi : Ps[i]? = some (aV 76 v (Z.map Prod.fst))) (hj : Ps[j]? = some (aBr Z)) (hZ : Z.length = n) {u k : Nat} {r : Value} {l : List Bool} {b : Bool} (hx : Z[u]? = some (r, l)) (hl : l.length = n) (hb : l[k]? = some b) :
  ∃ g cap g2 c2, v = .slice (some ⟨g, 0, none⟩) n cap ∧ w.cell? ⟨g, u, none⟩ = some (.slice (some ⟨g2, 0, none⟩) n c2) ∧ w.cell? ⟨g2, k, none⟩ = some (.bool b) := by
 have hu := (List.getElem?_eq_some_iff.1 hx).1
 obtain ⟨g, cap, rfl⟩ := (HSx.formV h i hi).2 (by rw [List.length_map]; omega)
 rw [List.length_map, hZ] at hi ⊢
 have h1 := (HSx.cellV h i hi (j := u) (r := r) (by rw [List.getElem?_map, hx]; rfl)).1
 obtain ⟨F, hF, _⟩ := HSx.get h j hj
 have hf : FBo F w r l := hF _ (List.mem_of_getElem? hx)
 have hk := (List.getElem?_eq_some_iff.1 hb).1
 obtain ⟨g2, c2, rfl, _, _⟩ := hf.head (by omega)
 refine ⟨g, cap, g2, c2, rfl, ?_, hf.cell rfl hb⟩
 rw [h1, hl]
end
def iN (l : List Nat) : List Int := l.map fun (j : Nat) => (j : Int)
abbrev mutC (c : List (List Int)) : Nat → Nat → Bool := mutB (nxA (wgR c)) (elL c).length
def lcR (c : List (List Int)) : List (List Int) := if okK c = true then (celS (mutC c) (elL c).length (elL c).length).map iN else []
theorem wgR_to {c : List (List Int)} (hk : okK c = true) : ∀ a ∈ wgR c, a.1 < (elL c).length ∧ a.2.1 < (elL c).length := by
 unfold wgR
 rw [if_pos hk]
 exact wgL_to _ _ _ _ (Nat.le_refl _)
theorem celOf_next (m : Nat → Nat → Bool) (_n i k : Nat) : ((List.range (k + 1)).filter (m i)) = (List.range k).filter (m i) ++ (if m i k = true then [k] else []) := by
 rw [List.range_succ, List.filter_append]
 congr 1
 by_cases h : m i k = true
 ·rw [if_pos h]; simp [h]
 ·rw [if_neg h]; simp [h]
theorem mut_at {L : List Arw} {n i k : Nat} {b1 b2 : Bool} (h1 : (brAll (nxA L) n i)[k]? = some b1) (h2 : (brAll (nxA L) n k)[i]? = some b2) : mutB (nxA L) n i k = (b1 && b2) := by unfold mutB; rw [h1, h2]; rfl
theorem celS_len (m : Nat → Nat → Bool) (n : Nat) : ∀ i, (celS m n i).length ≤ i
 | 0 => by simp [celS]
 | i + 1 => by
  unfold celS
  have := celS_len m n i
  split
  ·simp; omega
  ·omega
theorem celOf_len (m : Nat → Nat → Bool) (n i : Nat) : (celOf m n i).length ≤ n := by
 unfold celOf
 have := List.length_filter_le (m i) (List.range n)
 rwa [List.length_range] at this
theorem lc_size {c : List (List Int)} (hk : okK c = true) : szC c = (elL c).length := by
 obtain ⟨_, h2, h3, h4, _⟩ := okK_fin hk
 rw [h4, el_exact h2 h3]
set_option maxHeartbeats 8000000 in
theorem lcSpec {S : Nat → Prop} {x : Value} {c : List (List Int)} {w : World} (h : RII S w x c) (hl : total c ≤ 16777216) :
  Calls Tryz.prog 44 #[x] w fun e w' => ∃ r, e = .returned (.tuple #[r, .bool (okK c)]) ∧ FII (New w w') w' r (lcR c) ∧ Below w.heap.size w w' := by
 have mixed : Tryz.prog.follows .mixedOrders = true := by kernel_rfl
 have HWG := Lib.hid (fun (wv : World) (hb : Below w.heap.size w wv) => wgSpec (h.below hb) hl)
 have HSZ := Lib.hid (fun (wv : World) (hb : Below w.heap.size w wv) => sizeSpec (h.below hb) hl)
 obtain ⟨aa, ca, rfl⟩ := h.form
 clear h
 obtain ⟨w1, hw1⟩ : ∃ w1, w1 = w.alloc (.cells #[] 28) := ⟨_, rfl⟩
 have hs1 := (freshRows (HS.nil (Below.refl _ w)) hw1).add (Below.refl _ _) (st_Rs []) (F := NoB) ⟨fun x hx => by simp at hx, List.Pairwise.nil⟩ (fun b hb => hb.elim)
 have hs1 : HS w w1 [aV 28 (.slice (some ⟨w.heap.size, 0, none⟩) 0 0) (([] : Zl).map Prod.fst), aRs []] := hs1
 have hwg := HWG.out w1 hs1.bl
 have HW1 := Lib.hid hw1
 clear hw1 HWG
 cases hk : okK c with
 | false =>
  have HR : Hid (lcR c = []) := Lib.hid (by unfold lcR; rw [hk]; rfl)
  rw [hk] at hwg
  clear hk HSZ
  go_enter Tryz.func44, Tryz.ntmps44
  go_wp2_with fail
  rw [← HW1.out]
  refine hwg.mono ?_
  rintro e w2 ⟨p, rfl, _, b2⟩
  have hs2 := HSx.below hs1 b2
  have hs7 : HS w w2 [aF (.slice (some ⟨w.heap.size, 0, none⟩) 0 0) (([] : Zl).map Prod.snd)] := ((HSx.shutF hs2 (Z := []) (v := .slice (some ⟨w.heap.size, 0, none⟩) 0 0) 0 1 (by decide) rfl rfl).pick [0] (by decide))
  have hfa := HS.F hs7 0 rfl
  have hbl := hs2.bl
  clear hwg
  go_wp2_with fail
  go_ret2
  exact ⟨_, rfl, by rw [HR.out]; exact hfa, hbl⟩
 | true =>
  have HR : Hid (lcR c = (celS (mutC c) (elL c).length (elL c).length).map iN) := Lib.hid (by unfold lcR; rw [if_pos hk])
  have HTO := Lib.hid (wgR_to hk)
  have HWL := Lib.hid (wgR_len c)
  have hN24 := (KlOk.of hk).few
  rw [lc_size hk] at HSZ
  rw [hk] at hwg
  unfold mutC at HR
  generalize lcR c = res at *
  generalize wgR c = L at *
  generalize (elL c).length = N at *
  have HEQ : Hid (EqvB N (mutB (nxA L) N)) := Lib.hid (mutB_eqv (fun q _ => nxA_lt HTO.out q))
  have HBL := Lib.hid (fun (i : Nat) (hi : i < N) => (brAll_ok (x := i) (fun q (_ : q < N) => nxA_lt HTO.out q) hi).1)
  clear hk
  go_enter Tryz.func44, Tryz.ntmps44
  go_wp2_with fail
  rw [← HW1.out]
  refine hwg.mono ?_
  rintro e w2 ⟨va, rfl, fa, b2⟩
  have hs2 := HSx.add hs1 b2 (st_A va L) fa (fun _ h => h)
  have hs2 : HS w w2 [aV 28 (.slice (some ⟨w.heap.size, 0, none⟩) 0 0) (([] : Zl).map Prod.fst), aRs [], aA va L] := hs2
  have hsz := HSZ.out w2 hs2.bl
  clear hwg hs1 fa b2 HSZ
  go_wp2_with fail
  refine hsz.mono ?_
  rintro e w3 ⟨rfl, b3⟩
  have hs3 := HSx.below hs2 b3
  clear hsz hs2 b3
  obtain ⟨w4, hw4⟩ : ∃ w4, w4 = w3.alloc (.cells #[] 76) := ⟨_, rfl⟩
  have hs4 := (freshV0 hs3 76 hw4).noBr
  have hs4 : HS w w4 [aV 28 (.slice (some ⟨w.heap.size, 0, none⟩) 0 0) (([] : Zl).map Prod.fst), aRs [], aA va L, aV 76 (.slice (some ⟨w3.heap.size, 0, none⟩) 0 0) (([] : Zb).map Prod.fst), aBr []] := hs4
  have HW4 := Lib.hid hw4
  have HB0 : Hid (([] : Zb).map Prod.snd = (List.range 0).map (brAll (nxA L) N)) := Lib.hid rfl
  clear hw4 hs3
  go_wp2_with fail
  rw [← HW4.out]
  go_loopw [8, 9] (fun oo ii wr => ∃ (i : Nat) (vo : Value) (B : Zb), vo = oo ∧ i ≤ N ∧ ii = .int .i64 i ∧ HS w wr [aV 28 (.slice (some ⟨w.heap.size, 0, none⟩) 0 0) (([] : Zl).map Prod.fst), aRs [], aA va L, aV 76 vo (B.map Prod.fst), aBr B] ∧ Hid (B.map Prod.snd = (List.range i).map (brAll (nxA L) N))) (fun _ ii _ => N - (intOf ii).toNat)
  case atStart => exact ⟨0, _, [], rfl, Nat.zero_le _, rfl, hs4, HB0⟩
  case round =>
   clear hs4 HB0
   obtain ⟨i, vo, B, rfl, hiN, rfl, hs, HB⟩ := hrel
   by_cases hi : i < N
   ·have i1 : (i : Int) < (N : Int) := by omega
    have hrc := reachSpec (HS.Ar hs 2 rfl) HTO.out hi hN24 HWL.out
    have HBN : Hid (∀ r, (B ++ [(r, brAll (nxA L) N i)]).map Prod.snd = (List.range (i + 1)).map (brAll (nxA L) N)) := Lib.hid (fun r => by rw [List.map_append, HB.out, List.range_succ, List.map_append]; rfl)
    have HLB : Hid ((B.map Prod.fst).length + 1 ≤ 67108864) := Lib.hid (by have := congrArg List.length HB.out; simp at this; simp; omega)
    have HQL := Lib.hid (HBL.out i hi)
    generalize brAll (nxA L) N i = q at *
    go_wp2_with fail
    refine hrc.mono ?_
    rintro e w5 ⟨r5, rfl, f5, b5⟩
    obtain ⟨g5, c5, e5, _, _⟩ := f5.head (by rw [HQL.out]; omega)
    rw [HQL.out] at e5
    subst e5
    have hs5 := HSx.addB hs b5 f5
    have hs5 : HS w w5 [aV 28 (.slice (some ⟨w.heap.size, 0, none⟩) 0 0) (([] : Zl).map Prod.fst), aRs [], aA va L, aV 76 vo (B.map Prod.fst), aBr B, aB (.slice (some ⟨g5, 0, none⟩) N c5) q] := hs5
    obtain ⟨w6, hw6⟩ : ∃ w6, w6 = w5.alloc (.cells #[(.slice (some ⟨g5, 0, none⟩) N c5)] 76) := ⟨_, rfl⟩
    have hs6 := HSx.alloc hs5 (.cells #[(.slice (some ⟨g5, 0, none⟩) N c5)] 76)
    rw [← hw6] at hs6
    have hc6 : w6.cell? ⟨w5.heap.size, 0, none⟩ = some (.slice (some ⟨g5, 0, none⟩) N c5) := by rw [hw6]; go_simp
    have HW6 := Lib.hid hw6
    have HNV := Lib.hid (HS.newV hs6 3 rfl)
    clear hrc hs f5 b5 hs5 hw6
    go_wp2_with (at_builtin; go_must (rw [← HW6.out]; refine wpList_hsV rfl _ _ Tryz.underlying75 infoBools rfl (by decide) rfl rfl hs6 3 rfl HNV.out rfl hc6 rfl HLB.out ?_))
    intro v7 w7 hs7 _
    have hs8 := (HSx.moreBr hs7 4 5 (by decide) rfl rfl).pick [0, 1, 2, 3, 4] (by decide)
    have hs8 : HS w w7 [aV 28 (.slice (some ⟨w.heap.size, 0, none⟩) 0 0) (([] : Zl).map Prod.fst), aRs [], aA va L, aV 76 v7 ((B ++ [((Value.slice (some ⟨g5, 0, none⟩) N c5), q)]).map Prod.fst), aBr (B ++ [((Value.slice (some ⟨g5, 0, none⟩) N c5), q)])] := by rw [List.map_append]; exact hs8
    clear hs6 hc6 hs7
    go_wp2_with fail
    go_roundw
    case rel => exact ⟨i + 1, v7, _, rfl, by omega, by go_num, hs8, Lib.hid (HBN.out (.slice (some ⟨g5, 0, none⟩) N c5))⟩
    case measure => simp [intOf]; omega
   ·have i1 : ¬ (i : Int) < (N : Int) := by omega
    have hiN2 : i = N := by omega
    rw [hiN2] at HB
    have hBl : B.length = N := by have := congrArg List.length HB.out; simpa using this
    have HBA := Lib.hid (fun (u : Nat) (hu : u < N) => (show ∃ r, B[u]? = some (r, brAll (nxA L) N u) from by
     obtain ⟨⟨r, l⟩, hx⟩ : ∃ y, B[u]? = some y := ⟨B[u]'(by rw [hBl]; exact hu), List.getElem?_eq_getElem _⟩
     have h1 := congrArg (fun l => l[u]?) HB.out
     simp only [List.getElem?_map, hx, List.getElem?_range hu, Option.map_some, Option.some.injEq] at h1
     exact ⟨r, by rw [hx]; exact congrArg (fun z => some (r, z)) h1⟩))
    have HBL2 := Lib.hid hBl
    have HZ0 : Hid (([] : Zl).map Prod.snd = (celS (mutB (nxA L) N) N 0).map iN) := Lib.hid rfl
    clear hiN2 HB hBl
    go_wp2_with fail
    go_loopw [4, 11] (fun oo ii wr => ∃ (i : Nat) (v1 : Value) (Z : Zl), v1 = oo ∧ i ≤ N ∧ ii = .int .i64 i ∧ HS w wr [aV 28 v1 (Z.map Prod.fst), aRs Z, aA va L, aV 76 vo (B.map Prod.fst), aBr B] ∧ Hid (Z.map Prod.snd = (celS (mutB (nxA L) N) N i).map iN)) (fun _ ii _ => N - (intOf ii).toNat)
    case atStart => exact ⟨0, _, [], rfl, Nat.zero_le _, rfl, hs, HZ0⟩
    case round =>
     clear hs HZ0
     obtain ⟨i, v1, Z, rfl, hiN, rfl, hs, HZ⟩ := hrel
     by_cases hi : i < N
     ·have i1 : (i : Int) < (N : Int) := by omega
      have i0 : (0 : Int) ≤ (i : Int) := by omega
      obtain ⟨w5, hw5⟩ : ∃ w5, w5 = wr.alloc (.cells #[] 3) := ⟨_, rfl⟩
      have hs5 := freshNone hs hw5
      have hs5 : HS w w5 [aV 28 v1 (Z.map Prod.fst), aRs Z, aA va L, aV 76 vo (B.map Prod.fst), aBr B, aI (.slice (some ⟨wr.heap.size, 0, none⟩) 0 0) (iN ((List.range 0).filter (mutB (nxA L) N i)))] := hs5
      have HW5 := Lib.hid hw5
      clear hw5 hs
      go_wp2_with fail
      rw [← HW5.out]
      have HNX := Lib.hid (fun (k : Nat) => celOf_next (mutB (nxA L) N) N i k)
      have HCF : Hid ((List.range N).filter (mutB (nxA L) N i) = celOf (mutB (nxA L) N) N i) := Lib.hid rfl
      have HHD := Lib.hid (cel_head HEQ.out hi)
      have HCL := Lib.hid (celOf_len (mutB (nxA L) N) N i)
      have HCN : Hid (celS (mutB (nxA L) N) N (i + 1) = if (celOf (mutB (nxA L) N) N i)[0]? = some i then celS (mutB (nxA L) N) N i ++ [celOf (mutB (nxA L) N) N i] else celS (mutB (nxA L) N) N i) := Lib.hid rfl
      have HSL := Lib.hid (celS_len (mutB (nxA L) N) N i)
      go_loopw [12, 13] (fun oo kk wr => ∃ (k : Nat) (v2 : Value), v2 = oo ∧ k ≤ N ∧ kk = .int .i64 k ∧ HS w wr [aV 28 v1 (Z.map Prod.fst), aRs Z, aA va L, aV 76 vo (B.map Prod.fst), aBr B, aI v2 (iN ((List.range k).filter (mutB (nxA L) N i)))]) (fun _ kk _ => N - (intOf kk).toNat)
      case atStart => exact ⟨0, _, rfl, Nat.zero_le _, rfl, hs5⟩
      case round =>
       clear hs5
       obtain ⟨k, v2, rfl, hkN, rfl, hs⟩ := hrel
       by_cases hk : k < N
       ·have j1 : (k : Int) < (N : Int) := by omega
        have j0 : (0 : Int) ≤ (k : Int) := by omega
        obtain ⟨ri, hri⟩ := HBA.out i hi
        obtain ⟨rk, hrk⟩ := HBA.out k hk
        obtain ⟨b1, hb1⟩ : ∃ b, (brAll (nxA L) N i)[k]? = some b := ⟨_, List.getElem?_eq_getElem (by rw [HBL.out i hi]; exact hk)⟩
        obtain ⟨b2, hb2⟩ : ∃ b, (brAll (nxA L) N k)[i]? = some b := ⟨_, List.getElem?_eq_getElem (by rw [HBL.out k hk]; exact hi)⟩
        obtain ⟨g1, c1, g2, c2, e1, k1, k2⟩ := HSx.cellBr hs 3 4 rfl rfl HBL2.out hri (HBL.out i hi) hb1
        obtain ⟨g3, c3, g4, c4, e2, k3, k4⟩ := HSx.cellBr hs 3 4 rfl rfl HBL2.out hrk (HBL.out k hk) hb2
        rw [e1] at e2
        simp only [Value.slice.injEq, Option.some.injEq, Addr.mk.injEq, and_true, true_and] at e2
        obtain ⟨e3, e4⟩ := e2
        subst e3 e4 e1
        have hmu := mut_at hb1 hb2
        have HN2 := Lib.hid (HNX.out k)
        rw [hmu] at HN2
        have hfl : ((List.range k).filter (mutB (nxA L) N i)).length ≤ k := by
         have := List.length_filter_le (mutB (nxA L) N i) (List.range k)
         rwa [List.length_range] at this
        have HLL : Hid ((iN ((List.range k).filter (mutB (nxA L) N i))).length + 1 ≤ 67108864) := Lib.hid (by unfold iN; rw [List.length_map]; omega)
        have HMA : Hid (∀ l, iN (l ++ [k]) = iN l ++ [(k : Int)]) := Lib.hid (fun l => by simp [iN])
        clear hri hrk hb1 hb2 hmu hfl
        generalize (List.range k).filter (mutB (nxA L) N i) = fl at *
        generalize hfn : (List.range (k + 1)).filter (mutB (nxA L) N i) = fn at *
        have HFN := Lib.hid hfn
        clear hfn
        by_cases hb : (b1 && b2) = true
        ·rw [Bool.and_eq_true] at hb
         obtain ⟨rfl, rfl⟩ := hb
         have HN3 : Hid (fn = fl ++ [k]) := Lib.hid HN2.out
         obtain ⟨w6, hw6⟩ : ∃ w6, w6 = wr.alloc (.cells #[.int .i64 k] 3) := ⟨_, rfl⟩
         have hs6 := HSx.alloc hs (.cells #[.int .i64 k] 3)
         rw [← hw6] at hs6
         have hc6 : w6.cell? ⟨wr.heap.size, 0, none⟩ = some (.int .i64 k) := by rw [hw6]; go_simp
         have HW6 := Lib.hid hw6
         clear hs hw6
         go_wp2_with (at_builtin; go_must (rw [← HW6.out]; refine wpList_hsI rfl _ _ rfl rfl hs6 5 rfl rfl hc6 HLL.out ?_))
         intro v7 w7 hs7
         have hs7 : HS w w7 [aV 28 v1 (Z.map Prod.fst), aRs Z, aA va L, aV 76 (.slice (some ⟨g1, 0, none⟩) N c1) (B.map Prod.fst), aBr B, aI v7 (iN ((List.range (k + 1)).filter (mutB (nxA L) N i)))] := by rw [HFN.out, HN3.out, HMA.out]; exact hs7
         clear hs6 hc6
         go_wp2_with fail
         go_roundw
         case rel => exact ⟨k + 1, v7, rfl, by omega, by go_num, hs7⟩
         case measure => simp [intOf]; omega
        ·have HN3 : Hid (fn = fl) := Lib.hid (by rw [HN2.out, if_neg hb, List.append_nil])
         have hs7 : HS w wr [aV 28 v1 (Z.map Prod.fst), aRs Z, aA va L, aV 76 (.slice (some ⟨g1, 0, none⟩) N c1) (B.map Prod.fst), aBr B, aI v2 (iN ((List.range (k + 1)).filter (mutB (nxA L) N i)))] := by rw [HFN.out, HN3.out]; exact hs
         clear hs
         cases b1 with
         | false =>
          go_wp2_with fail
          go_roundw
          case rel => exact ⟨k + 1, v2, rfl, by omega, by go_num, hs7⟩
          case measure => simp [intOf]; omega
         | true =>
          cases b2 with
          | true => exact absurd rfl hb
          | false =>
           go_wp2_with fail
           go_roundw
           case rel => exact ⟨k + 1, v2, rfl, by omega, by go_num, hs7⟩
           case measure => simp [intOf]; omega
       ·have j1 : ¬ (k : Int) < (N : Int) := by omega
        have hkN2 : k = N := by omega
        rw [hkN2, HCF.out] at hs
        obtain ⟨a, ha, _, _, _⟩ := HHD.out
        have HIL : Hid ((iN (celOf (mutB (nxA L) N) N i)).length ≤ 24 ∧ 0 < (iN (celOf (mutB (nxA L) N) N i)).length ∧ (iN (celOf (mutB (nxA L) N) N i))[0]? = some (a : Int)) := Lib.hid (by
         unfold iN
         rw [List.length_map, List.getElem?_map, ha]
         refine ⟨by have := HCL.out; omega, (List.getElem?_eq_some_iff.1 ha).1, rfl⟩)
        obtain ⟨g6, c6, e6, _, _⟩ := HS.headI hs 5 rfl HIL.out.2.1
        subst e6
        obtain ⟨k6, _⟩ := HS.cellI hs 5 rfl rfl HIL.out.2.2
        have HHA := Lib.hid ha
        clear hkN2 ha HHD HCF HNX
        generalize celOf (mutB (nxA L) N) N i = cl at *
        obtain ⟨ln, hln⟩ : ∃ ln, (iN cl).length = ln := ⟨_, rfl⟩
        rw [hln] at hs ⊢
        have hl0 : (0 : Int) < (ln : Int) := by have := HIL.out.2.1; omega
        have HLN := Lib.hid hln
        clear hln
        by_cases hai : a = i
        ·have e0 : ((a : Int) == (i : Int)) = true := by rw [beq_iff_eq]; omega
         have HC2 := Lib.hid (HCN.out.trans (if_pos (by rw [HHA.out, hai])))
         have HZ2 : Hid ((Z ++ [(Value.slice (some ⟨g6, 0, none⟩) ln c6, iN cl)]).map Prod.snd = (celS (mutB (nxA L) N) N (i + 1)).map iN) := Lib.hid (by rw [HC2.out, List.map_append, List.map_append, HZ.out]; rfl)
         have HLZ : Hid ((Z.map Prod.fst).length + 1 ≤ 67108864) := Lib.hid (by have h1 := congrArg List.length HZ.out; have h2 := HSL.out; simp only [List.length_map] at h1; rw [List.length_map]; omega)
         obtain ⟨w6, hw6⟩ : ∃ w6, w6 = wr.alloc (.cells #[.slice (some ⟨g6, 0, none⟩) ln c6] 28) := ⟨_, rfl⟩
         have hs6 := HSx.alloc hs (.cells #[.slice (some ⟨g6, 0, none⟩) ln c6] 28)
         rw [← hw6] at hs6
         have hc6 : w6.cell? ⟨wr.heap.size, 0, none⟩ = some (.slice (some ⟨g6, 0, none⟩) ln c6) := by rw [hw6]; go_simp
         have HW6 := Lib.hid hw6
         have HNV := Lib.hid (HS.newV hs6 0 rfl)
         clear hs hw6 hai HCN HC2
         go_wp2_with (at_builtin; go_must (rw [← HW6.out]; refine wpList_hsRow rfl _ _ rfl rfl hs6 0 rfl HNV.out rfl hc6 rfl HLZ.out ?_))
         intro v7 w7 hs7 _
         have hs8 := (HSx.moreS hs7 1 5 (by decide) rfl rfl (Z' := Z ++ [(.slice (some ⟨g6, 0, none⟩) ln c6, iN cl)]) (List.perm_append_singleton _ _)).pick [0, 1, 2, 3, 4] (by decide)
         have hs8 : HS w w7 [aV 28 v7 ((Z ++ [(Value.slice (some ⟨g6, 0, none⟩) ln c6, iN cl)]).map Prod.fst), aRs (Z ++ [(Value.slice (some ⟨g6, 0, none⟩) ln c6, iN cl)]), aA va L, aV 76 vo (B.map Prod.fst), aBr B] := by rw [List.map_append]; exact hs8
         clear hs6 hs7 hc6 k6
         go_wp2_with fail
         go_roundw
         case rel => exact ⟨i + 1, v7, _, rfl, by omega, by go_num, hs8, HZ2⟩
         case measure => simp [intOf]; omega
        ·have e0 : ((a : Int) == (i : Int)) = false := by rw [beq_eq_false_iff_ne]; omega
         have HC2 := Lib.hid (HCN.out.trans (if_neg (by rw [HHA.out]; simp only [Option.some.injEq]; exact hai)))
         have HZ2 : Hid (Z.map Prod.snd = (celS (mutB (nxA L) N) N (i + 1)).map iN) := Lib.hid (by rw [HC2.out]; exact HZ.out)
         have hs8 : HS w wr [aV 28 v1 (Z.map Prod.fst), aRs Z, aA va L, aV 76 vo (B.map Prod.fst), aBr B] := hs.pick [0, 1, 2, 3, 4] (by decide)
         clear hs hai HCN HC2
         go_wp2_with fail
         go_roundw
         case rel => exact ⟨i + 1, v1, Z, rfl, by omega, by go_num, hs8, HZ2⟩
         case measure => simp [intOf]; omega
     ·have i1 : ¬ (i : Int) < (N : Int) := by omega
      have hiN2 : i = N := by omega
      rw [hiN2, ← HR.out] at HZ
      have hs7 : HS w wr [aF v1 (Z.map Prod.snd)] := ((HSx.shutF hs (Z := Z) (v := v1) 0 1 (by decide) rfl rfl).pick [0] (by decide))
      rw [HZ.out] at hs7
      have hfa := HS.F hs7 0 rfl
      have hbl := hs7.bl
      clear hs hs7 hiN2 HZ
      go_wp2_with fail
      go_ret2
      exact ⟨_, rfl, hfa, hbl⟩
end Go.Proofs.YtipjomdldjbenaaGreatDoor
