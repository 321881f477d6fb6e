/- Terms in order with a polynomial each: such a list is known by its coefficients; adding a term; joining equal words in a sorted list. Plain lists. Equal words of a sorted list of terms joined, those without a polynomial left out: the same as adding the terms one by one. Plain lists. Adding a term as the reference's loop does it. Plain lists. Products of polynomials. Condition: sizes up to 2^23. Lists of terms added one by one: their words, lengths and numbers. Plain lists. -/
import Derived.Test.YtipjomdldjbenaaGreatJGSort
import Derived.Test.YtipjomdldjbenaaGreatJGPoly
import Derived.Test.YtipjomdldjbenaaGreatJLawTerm
/-! Terms in order with a polynomial each: such a list is known by its coefficients; adding a term; joining equal words in a sorted list. Plain lists. -/
namespace Go.Proofs.YtipjomdldjbenaaGreat
open Go.RowKit

theorem trimTo_num (p : List Int) : ∀ n, trimTo p n = 0 ∨ num p (trimTo p n - 1) ≠ 0
  | 0 => .inl rfl
  | n + 1 => by
    unfold trimTo
    by_cases h : num p n = 0
    · rw [if_pos h]; exact trimTo_num p n
    · rw [if_neg h]; exact .inr (by rwa [Nat.add_sub_cancel])
theorem trimTo_zeros (p : List Int) : ∀ n k, trimTo p n ≤ k → k < n → num p k = 0
  | 0, k, _, h => absurd h (Nat.not_lt_zero _)
  | n + 1, k, h1, h2 => by
    unfold trimTo at h1
    by_cases h : num p n = 0
    · rw [if_pos h] at h1
      by_cases hk : k = n
      · rw [hk]; exact h
      · exact trimTo_zeros p n k h1 (by omega)
    · rw [if_neg h] at h1; omega
theorem trim_len (p : List Int) : (trim p).length = trimTo p p.length := by
  have := trimTo_le p p.length
  unfold trim; simp; omega
theorem num_trim (p : List Int) (k : Nat) : num (trim p) k = num p k := by
  by_cases h : k < trimTo p p.length
  · unfold trim num
    rw [List.getElem?_take, if_pos h]
  · rw [num_out (by rw [trim_len]; omega)]
    by_cases h2 : k < p.length
    · exact (trimTo_zeros p p.length k (by omega) h2).symm
    · exact (num_out (by omega)).symm
/-- The last number is not nought. -/
def Trd (p : List Int) : Prop := p = [] ∨ num p (p.length - 1) ≠ 0
theorem trd_trim (p : List Int) : Trd (trim p) := by
  rcases trimTo_num p p.length with h | h
  · exact .inl (List.eq_nil_of_length_eq_zero (by rw [trim_len, h]))
  · exact .inr (by rw [num_trim, trim_len]; exact h)
theorem trd_ext {p q : List Int} (hp : Trd p) (hq : Trd q) (h : ∀ k, num p k = num q k) : p = q := by
  have key : ∀ {p q : List Int}, Trd q → (∀ k, num p k = num q k) → q.length ≤ p.length := by
    intro p q hq h
    rcases hq with rfl | hq
    · exact Nat.zero_le _
    · rcases Nat.lt_or_ge (q.length - 1) p.length with h1 | h1
      · omega
      · rw [← h, num_out h1] at hq; exact absurd rfl hq
  have hl : p.length = q.length := Nat.le_antisymm (key hp (fun k => (h k).symm)) (key hq h)
  apply List.ext_getElem? 
  intro k
  by_cases hk : k < p.length
  · have := h k
    unfold num at this
    rw [List.getElem?_eq_getElem hk, List.getElem?_eq_getElem (by omega)] at this ⊢
    exact congrArg some this
  · rw [List.getElem?_eq_none (by omega), List.getElem?_eq_none (by omega)]
theorem trim_of_trd {p : List Int} (h : Trd p) : trim p = p := trd_ext (trd_trim p) h (num_trim p)
theorem num_addP (a b : List Int) (k : Nat) : num (addP a b) k = wrap64 (num a k + num b k) := by
  unfold addP
  rw [num_trim]
  by_cases h : k < max a.length b.length
  · unfold sumTo
    rw [num]
    rw [List.getElem?_map, List.getElem?_range h]
    rfl
  · rw [num_out (by simp [sumTo]; omega), num_out (by omega), num_out (by omega)]
    unfold wrap64; omega
theorem trd_addP (a b : List Int) : Trd (addP a b) := trd_trim _
theorem wrap_idem (x y : Int) : wrap64 (wrap64 x + y) = wrap64 (x + y) := by unfold wrap64; omega
theorem InI.num {p : List Int} (h : InI p) (k : Nat) : -9223372036854775808 ≤ num p k ∧ num p k ≤ 9223372036854775807 := by
  unfold Proofs.YtipjomdldjbenaaGreat.num
  cases e : p[k]? with
  | none => simp
  | some x => exact h x (List.mem_of_getElem? e)

/-- The words rise; no polynomial is nil; each ends with a number that is not nought. -/
structure Can (h : List Trm) : Prop where
  srt : h.Pairwise fun a b => cmpW a.1 b.1 < 0
  ne : ∀ t ∈ h, t.2 ≠ []
  tr : ∀ t ∈ h, Trd t.2
  inn : ∀ t ∈ h, InI t.2
/-- The k-th number of the sum of the polynomials at the word u. -/
def cf (h : List Trm) (u : List Int) (k : Nat) : Int := (h.map fun t => if t.1 = u then num t.2 k else 0).sum
theorem cf_nil (u : List Int) (k : Nat) : cf [] u k = 0 := rfl
theorem cf_cons (t : Trm) (h : List Trm) (u : List Int) (k : Nat) : cf (t :: h) u k = (if t.1 = u then num t.2 k else 0) + cf h u k := by simp [cf]
theorem cf_app (g h : List Trm) (u : List Int) (k : Nat) : cf (g ++ h) u k = cf g u k + cf h u k := by simp [cf]
theorem cf_perm {g h : List Trm} (p : g.Perm h) (u : List Int) (k : Nat) : cf g u k = cf h u k := by
  induction p with
  | nil => rfl
  | cons t _ ih => rw [cf_cons, cf_cons, ih]
  | swap s t l => rw [cf_cons, cf_cons, cf_cons, cf_cons]; omega
  | trans _ _ h1 h2 => rw [h1, h2]
theorem cf_out {h : List Trm} {u : List Int} (hu : ∀ t ∈ h, t.1 ≠ u) (k : Nat) : cf h u k = 0 := by
  induction h with
  | nil => rfl
  | cons t h ih => rw [cf_cons, if_neg (hu t (List.mem_cons_self ..)), ih (fun s hs => hu s (List.mem_cons_of_mem _ hs))]; rfl
theorem cmpW_self (u : List Int) : cmpW u u = 0 := cmpW_eq.2 rfl
theorem cmpW_lt_ne {u v : List Int} (h : cmpW u v < 0) : v ≠ u := by
  rintro rfl
  rw [cmpW_self] at h
  omega
theorem cmpW_lt_trans {x y z : List Int} (h1 : cmpW x y < 0) (h2 : cmpW y z < 0) : cmpW x z < 0 := by
  have h := cmpW_trans (Int.le_of_lt h1) (Int.le_of_lt h2)
  rcases Int.lt_or_eq_of_le h with h | h
  · exact h
  · have e := cmpW_eq.1 h
    subst e
    rw [cmpW_swap] at h2
    omega
theorem Can.tail {t : Trm} {h : List Trm} (c : Can (t :: h)) : Can h ∧ ∀ s ∈ h, cmpW t.1 s.1 < 0 :=
  ⟨⟨(List.pairwise_cons.1 c.srt).2, fun s hs => c.ne s (List.mem_cons_of_mem _ hs), fun s hs => c.tr s (List.mem_cons_of_mem _ hs), fun s hs => c.inn s (List.mem_cons_of_mem _ hs)⟩, (List.pairwise_cons.1 c.srt).1⟩
theorem Can.cons {t : Trm} {h : List Trm} (c : Can h) (h1 : ∀ s ∈ h, cmpW t.1 s.1 < 0) (h2 : t.2 ≠ []) (h3 : Trd t.2) (h4 : InI t.2) : Can (t :: h) :=
  ⟨List.pairwise_cons.2 ⟨h1, c.srt⟩, fun s hs => by rcases List.mem_cons.1 hs with rfl | hs; exact h2; exact c.ne s hs, fun s hs => by rcases List.mem_cons.1 hs with rfl | hs; exact h3; exact c.tr s hs,
    fun s hs => by rcases List.mem_cons.1 hs with rfl | hs; exact h4; exact c.inn s hs⟩
theorem Can.nil : Can [] := ⟨List.Pairwise.nil, fun t h => by simp at h, fun t h => by simp at h, fun t h => by simp at h⟩
theorem Can.head {t : Trm} {h : List Trm} (c : Can (t :: h)) (k : Nat) : cf (t :: h) t.1 k = num t.2 k := by
  rw [cf_cons, if_pos rfl, cf_out (fun s hs => cmpW_lt_ne (c.tail.2 s hs))]; omega
theorem Can.absent {t : Trm} {h g : List Trm} (c : Can (t :: h)) (hg : ∀ s ∈ g, s.1 ≠ t.1) (e : ∀ u k, wrap64 (cf (t :: h) u k) = wrap64 (cf g u k)) : False := by
  refine c.ne t (List.mem_cons_self ..) (trd_ext (c.tr t (List.mem_cons_self ..)) (.inl rfl) fun k => ?_)
  have h1 := e t.1 k
  rw [c.head, cf_out hg, wrap_in ((c.inn t (List.mem_cons_self ..)).num k)] at h1
  rw [h1, num_out (Nat.zero_le _)]; unfold wrap64; omega
/-- Such a list is known by its coefficients. -/
theorem can_ext : ∀ {g h : List Trm}, Can g → Can h → (∀ u k, wrap64 (cf g u k) = wrap64 (cf h u k)) → g = h
  | [], [], _, _, _ => rfl
  | t :: g, [], c, _, e => (c.absent (fun s hs => by simp at hs) e).elim
  | [], t :: h, _, c, e => (c.absent (fun s hs => by simp at hs) (fun u k => (e u k).symm)).elim
  | t :: g, s :: h, c, d, e => by
    have hts : t.1 = s.1 := by
      have h3 : cmpW t.1 s.1 < 0 ∨ cmpW t.1 s.1 = 0 ∨ cmpW s.1 t.1 < 0 := by rw [cmpW_swap t.1 s.1]; omega
      rcases h3 with h3 | h3 | h3
      · refine (c.absent (fun r hr => ?_) e).elim
        rcases List.mem_cons.1 hr with rfl | hr
        · exact cmpW_lt_ne h3
        · exact cmpW_lt_ne (cmpW_lt_trans h3 (d.tail.2 r hr))
      · exact cmpW_eq.1 h3
      · refine (d.absent (fun r hr => ?_) (fun u k => (e u k).symm)).elim
        rcases List.mem_cons.1 hr with rfl | hr
        · exact cmpW_lt_ne h3
        · exact cmpW_lt_ne (cmpW_lt_trans h3 (c.tail.2 r hr))
    have hp : t.2 = s.2 := trd_ext (c.tr t (List.mem_cons_self ..)) (d.tr s (List.mem_cons_self ..)) fun k => by
      have h1 := e t.1 k
      rw [c.head, hts, d.head, wrap_in ((c.inn t (List.mem_cons_self ..)).num k), wrap_in ((d.inn s (List.mem_cons_self ..)).num k)] at h1
      exact h1
    have ets : t = s := Prod.ext hts hp
    subst ets
    have := can_ext c.tail.1 d.tail.1 fun u k => by
      by_cases hu : t.1 = u
      · subst hu
        rw [cf_out (fun r hr => cmpW_lt_ne (c.tail.2 r hr)), cf_out (fun r hr => cmpW_lt_ne (d.tail.2 r hr))]
      · have := e u k
        rw [cf_cons, cf_cons, if_neg hu] at this
        simpa using this
    rw [this]

/-- A term added, by the reference. -/
def putT (w p : List Int) : List Trm → List Trm
  | [] => if p = [] then [] else [(w, p)]
  | t :: h => if cmpW w t.1 < 0 then (if p = [] then [] else [(w, p)]) ++ t :: h
    else if cmpW w t.1 = 0 then (if addP t.2 p = [] then [] else [(w, addP t.2 p)]) ++ h else t :: putT w p h
theorem cf_one (w p : List Int) (u : List Int) (k : Nat) : cf (if p = [] then [] else [(w, p)]) u k = if w = u then num p k else 0 := by
  by_cases hp : p = []
  · rw [if_pos hp, hp]; simp [cf, num]
  · rw [if_neg hp]; simp [cf]
theorem Can.one {w p : List Int} {h : List Trm} (c : Can h) (h1 : ∀ s ∈ h, cmpW w s.1 < 0) (h3 : Trd p) (h4 : InI p) : Can ((if p = [] then [] else [(w, p)]) ++ h) := by
  by_cases hp : p = []
  · rw [if_pos hp]; exact c
  · rw [if_neg hp]; exact c.cons h1 hp h3 h4
theorem putT_low {w p u : List Int} : ∀ {h : List Trm}, cmpW u w < 0 → (∀ s ∈ h, cmpW u s.1 < 0) → ∀ s ∈ putT w p h, cmpW u s.1 < 0
  | [], hw, _, s, hs => by
    unfold putT at hs
    split at hs
    · simp at hs
    · simp at hs; subst hs; exact hw
  | t :: h, hw, hh, s, hs => by
    unfold putT at hs
    split at hs
    · rw [List.mem_append] at hs
      rcases hs with hs | hs
      · split at hs
        · simp at hs
        · simp at hs; subst hs; exact hw
      · exact hh s hs
    · split at hs
      · rw [List.mem_append] at hs
        rcases hs with hs | hs
        · split at hs
          · simp at hs
          · simp at hs; subst hs; exact hw
        · exact hh s (List.mem_cons_of_mem _ hs)
      · rcases List.mem_cons.1 hs with rfl | hs
        · exact hh s (List.mem_cons_self ..)
        · exact putT_low hw (fun r hr => hh r (List.mem_cons_of_mem _ hr)) s hs
theorem putT_can {w p : List Int} (h3 : Trd p) (h4 : InI p) : ∀ {h : List Trm}, Can h → Can (putT w p h) ∧ ∀ u k, wrap64 (cf (putT w p h) u k) = wrap64 (cf h u k + if w = u then num p k else 0)
  | [], c => by
    unfold putT
    refine ⟨by have := Can.one (w := w) c (fun s hs => by simp at hs) h3 h4; rwa [List.append_nil] at this, fun u k => ?_⟩
    rw [cf_one, cf_nil, Int.zero_add]
  | t :: h, c => by
    unfold putT
    by_cases h1 : cmpW w t.1 < 0
    · rw [if_pos h1]
      refine ⟨c.one (fun s hs => ?_) h3 h4, fun u k => ?_⟩
      · rcases List.mem_cons.1 hs with rfl | hs
        · exact h1
        · exact cmpW_lt_trans h1 (c.tail.2 s hs)
      · rw [cf_app, cf_one, Int.add_comm]
    · rw [if_neg h1]
      by_cases h2 : cmpW w t.1 = 0
      · rw [if_pos h2]
        have e := cmpW_eq.1 h2
        subst e
        refine ⟨c.tail.1.one c.tail.2 (trd_addP _ _) (addP_in _ _), fun u k => ?_⟩
        rw [cf_app, cf_one, cf_cons, num_addP]
        by_cases hu : t.1 = u
        · rw [if_pos hu, if_pos hu, if_pos hu, wrap_idem]
          congr 1; omega
        · rw [if_neg hu, if_neg hu, if_neg hu]
          congr 1; omega
      · rw [if_neg h2]
        have h5 : cmpW t.1 w < 0 := by rw [cmpW_swap]; omega
        obtain ⟨c1, c2⟩ := putT_can (w := w) h3 h4 c.tail.1
        refine ⟨c1.cons (putT_low h5 c.tail.2) (c.ne t (List.mem_cons_self ..)) (c.tr t (List.mem_cons_self ..)) (c.inn t (List.mem_cons_self ..)), fun u k => ?_⟩
        rw [cf_cons, cf_cons]
        have := c2 u k
        unfold wrap64 at this ⊢
        omega
end Go.Proofs.YtipjomdldjbenaaGreat

/-! Equal words of a sorted list of terms joined, those without a polynomial left out: the same as adding the terms one by one. Plain lists. -/
namespace Go.Proofs.YtipjomdldjbenaaGreat
open Go.RowKit

/-- One more term of a sorted list. -/
def grpT (acc : List Trm) (t : Trm) : List Trm :=
  match acc.getLast? with
  | some l => if l.1 = t.1 then acc.dropLast ++ [(l.1, addP l.2 t.2)] else acc ++ [(t.1, trim t.2)]
  | none => [(t.1, trim t.2)]
theorem grpT_nil (t : Trm) : grpT [] t = [(t.1, trim t.2)] := rfl
theorem grpT_snoc (acc : List Trm) (l t : Trm) : grpT (acc ++ [l]) t = if l.1 = t.1 then acc ++ [(l.1, addP l.2 t.2)] else (acc ++ [l]) ++ [(t.1, trim t.2)] := by
  unfold grpT
  simp
theorem snoc_cases {α : Type} (l : List α) : l = [] ∨ ∃ a x, l = a ++ [x] := by
  rcases List.eq_nil_or_concat l with h | ⟨a, x, h⟩
  · exact .inl h
  · exact .inr ⟨a, x, by rw [h, List.concat_eq_append]⟩

/-- What holds of the terms joined so far, the next word being u or above it. -/
structure Gr (acc : List Trm) : Prop where
  srt : acc.Pairwise fun a b => cmpW a.1 b.1 < 0
  tr : ∀ t ∈ acc, Trd t.2
  inn : ∀ t ∈ acc, InI t.2
theorem Gr.nil : Gr [] := ⟨List.Pairwise.nil, fun t h => by simp at h, fun t h => by simp at h⟩
theorem Gr.snoc {acc : List Trm} {t : Trm} (g : Gr acc) (h : ∀ s ∈ acc, cmpW s.1 t.1 < 0) (h2 : Trd t.2) (h3 : InI t.2) : Gr (acc ++ [t]) :=
  ⟨List.pairwise_append.2 ⟨g.srt, List.pairwise_singleton .., fun s hs r hr => by rw [List.mem_singleton] at hr; subst hr; exact h s hs⟩,
   fun s hs => by rcases List.mem_append.1 hs with hs | hs; exact g.tr s hs; rw [List.mem_singleton] at hs; subst hs; exact h2,
   fun s hs => by rcases List.mem_append.1 hs with hs | hs; exact g.inn s hs; rw [List.mem_singleton] at hs; subst hs; exact h3⟩
theorem Gr.init {acc : List Trm} {t : Trm} (g : Gr (acc ++ [t])) : Gr acc ∧ ∀ s ∈ acc, cmpW s.1 t.1 < 0 :=
  ⟨⟨(List.pairwise_append.1 g.srt).1, fun s hs => g.tr s (List.mem_append_left _ hs), fun s hs => g.inn s (List.mem_append_left _ hs)⟩,
   fun s hs => (List.pairwise_append.1 g.srt).2.2 s hs t (List.mem_singleton.2 rfl)⟩
theorem trim_in {p : List Int} (h : InI p) : InI (trim p) := fun x hx => h x (trim_mem hx)
theorem cf_snoc (g : List Trm) (t : Trm) (u : List Int) (k : Nat) : cf (g ++ [t]) u k = cf g u k + (if t.1 = u then num t.2 k else 0) := by
  rw [cf_app, cf_cons, cf_nil]; omega
/-- A round. -/
theorem grp_round {acc : List Trm} {t : Trm} (g : Gr acc) (ht : InI t.2) (hle : ∀ s ∈ acc, cmpW s.1 t.1 ≤ 0) :
    Gr (grpT acc t) ∧ (∀ s ∈ grpT acc t, cmpW s.1 t.1 ≤ 0) ∧ ∀ u k, wrap64 (cf (grpT acc t) u k) = wrap64 (cf acc u k + if t.1 = u then num t.2 k else 0) := by
  rcases snoc_cases acc with rfl | ⟨a, l, rfl⟩
  · rw [grpT_nil]
    refine ⟨(Gr.nil).snoc (t := (t.1, trim t.2)) (fun s hs => by simp at hs) (trd_trim _) (trim_in ht), fun s hs => ?_, fun u k => ?_⟩
    · rw [List.mem_singleton] at hs; subst hs; rw [cmpW_self]; exact Int.le_refl _
    · rw [cf_cons, cf_nil, num_trim, Int.zero_add, Int.add_zero]
  · rw [grpT_snoc]
    by_cases h : l.1 = t.1
    · rw [if_pos h]
      obtain ⟨g1, g2⟩ := g.init
      refine ⟨g1.snoc (t := (l.1, addP l.2 t.2)) g2 (trd_addP _ _) (addP_in _ _), fun s hs => ?_, fun u k => ?_⟩
      · rcases List.mem_append.1 hs with hs | hs
        · exact hle s (List.mem_append_left _ hs)
        · rw [List.mem_singleton] at hs; subst hs; rw [h, cmpW_self]; exact Int.le_refl _
      · rw [cf_snoc, cf_snoc, num_addP, ← h]
        by_cases hu : l.1 = u
        · rw [if_pos hu, if_pos hu, if_pos hu, Int.add_comm, wrap_idem]
          congr 1; omega
        · rw [if_neg hu, if_neg hu, if_neg hu]
          congr 1; omega
    · rw [if_neg h]
      have hlt : ∀ s ∈ a ++ [l], cmpW s.1 t.1 < 0 := fun s hs => by
        have hl : cmpW l.1 t.1 < 0 := by
          have h1 := hle l (List.mem_append_right _ (List.mem_singleton.2 rfl))
          rcases Int.lt_or_eq_of_le h1 with h1 | h1
          · exact h1
          · exact absurd (cmpW_eq.1 h1) h
        rcases List.mem_append.1 hs with hs | hs
        · exact cmpW_lt_trans (g.init.2 s hs) hl
        · rw [List.mem_singleton] at hs; subst hs; exact hl
      refine ⟨g.snoc (t := (t.1, trim t.2)) hlt (trd_trim _) (trim_in ht), fun s hs => ?_, fun u k => ?_⟩
      · rcases List.mem_append.1 hs with hs | hs
        · exact hle s hs
        · rw [List.mem_singleton] at hs; subst hs; rw [cmpW_self]; exact Int.le_refl _
      · rw [cf_snoc]
        show wrap64 (_ + if t.1 = u then num (trim t.2) k else 0) = _
        rw [num_trim]

def grpTs (L : List Trm) : List Trm := L.foldl grpT []
theorem grpTs_snoc (L : List Trm) (t : Trm) : grpTs (L ++ [t]) = grpT (grpTs L) t := by unfold grpTs; rw [List.foldl_append]; rfl
/-- All rounds over a sorted list. -/
theorem grp_all : ∀ (n : Nat) (L : List Trm), L.length = n → L.Pairwise (fun a b => cmpW a.1 b.1 ≤ 0) → (∀ t ∈ L, InI t.2) →
    Gr (grpTs L) ∧ (∀ s ∈ grpTs L, ∀ z, (∀ t ∈ L, cmpW t.1 z ≤ 0) → cmpW s.1 z ≤ 0) ∧ ∀ u k, wrap64 (cf (grpTs L) u k) = wrap64 (cf L u k)
  | 0, L, hn, _, _ => by
    have := List.eq_nil_of_length_eq_zero hn
    subst this
    exact ⟨Gr.nil, fun s hs => by simp [grpTs] at hs, fun _ _ => rfl⟩
  | n + 1, L, hn, hs, hi => by
    rcases snoc_cases L with rfl | ⟨a, t, rfl⟩
    · simp at hn
    · have ha : a.length = n := by simp at hn; exact hn
      obtain ⟨g1, g2, g3⟩ := grp_all n a ha (List.pairwise_append.1 hs).1 (fun s h => hi s (List.mem_append_left _ h))
      have hle : ∀ s ∈ a, cmpW s.1 t.1 ≤ 0 := fun s h => (List.pairwise_append.1 hs).2.2 s h t (List.mem_singleton.2 rfl)
      obtain ⟨r1, r2, r3⟩ := grp_round g1 (hi t (List.mem_append_right _ (List.mem_singleton.2 rfl))) (fun s h => g2 s h t.1 hle)
      rw [grpTs_snoc]
      refine ⟨r1, fun s h z hz => cmpW_trans (r2 s h) (hz t (List.mem_append_right _ (List.mem_singleton.2 rfl))), fun u k => ?_⟩
      rw [r3, cf_snoc]
      have := g3 u k
      unfold wrap64 at this ⊢
      omega
/-- Those with a polynomial. -/
def full (t : Trm) : Bool := !t.2.isEmpty
theorem full_iff {t : Trm} : full t = true ↔ t.2 ≠ [] := by
  unfold full
  cases t.2 <;> simp
theorem Gr.can {acc : List Trm} (g : Gr acc) : Can (acc.filter full) ∧ ∀ u k, cf (acc.filter full) u k = cf acc u k := by
  refine ⟨⟨g.srt.sublist List.filter_sublist, fun t h => full_iff.1 (List.mem_filter.1 h).2, fun t h => g.tr t (List.mem_filter.1 h).1, fun t h => g.inn t (List.mem_filter.1 h).1⟩, fun u k => ?_⟩
  clear g
  induction acc with
  | nil => rfl
  | cons t acc ih =>
    rw [List.filter_cons]
    by_cases h : full t = true
    · rw [if_pos h, cf_cons, cf_cons, ih]
    · rw [if_neg h, cf_cons, ih]
      have : t.2 = [] := by
        cases e : t.2 with
        | nil => rfl
        | cons a b => exact absurd (full_iff.2 (by rw [e]; simp)) h
      rw [this, num_out (Nat.zero_le _)]
      split <;> omega

/-- What the program collects out of a sorted list M. -/
def coll (M : List Trm) : List Trm := (grpTs M).filter full
/-- What the reference collects. -/
def puts (L : List Trm) : List Trm := L.foldl (fun h t => putT t.1 t.2 h) []
theorem puts_snoc (L : List Trm) (t : Trm) : puts (L ++ [t]) = putT t.1 t.2 (puts L) := by unfold puts; rw [List.foldl_append]; rfl
theorem puts_can : ∀ (n : Nat) (L : List Trm), L.length = n → (∀ t ∈ L, Trd t.2 ∧ InI t.2) → Can (puts L) ∧ ∀ u k, wrap64 (cf (puts L) u k) = wrap64 (cf L u k)
  | 0, L, hn, _ => by
    have := List.eq_nil_of_length_eq_zero hn
    subst this
    exact ⟨Can.nil, fun _ _ => rfl⟩
  | n + 1, L, hn, hi => by
    rcases snoc_cases L with rfl | ⟨a, t, rfl⟩
    · simp at hn
    · have ha : a.length = n := by simp at hn; exact hn
      obtain ⟨g1, g3⟩ := puts_can n a ha (fun s h => hi s (List.mem_append_left _ h))
      have ht := hi t (List.mem_append_right _ (List.mem_singleton.2 rfl))
      obtain ⟨r1, r3⟩ := putT_can (w := t.1) ht.1 ht.2 g1
      rw [puts_snoc]
      refine ⟨r1, fun u k => ?_⟩
      rw [r3, cf_snoc]
      have := g3 u k
      unfold wrap64 at this ⊢
      omega
/-- Both collect the same. -/
theorem coll_puts {L M : List Trm} (p : M.Perm L) (hs : M.Pairwise (fun a b => cmpW a.1 b.1 ≤ 0)) (hi : ∀ t ∈ L, Trd t.2 ∧ InI t.2) : coll M = puts L := by
  obtain ⟨g1, _, g3⟩ := grp_all _ M rfl hs (fun t h => (hi t (p.mem_iff.1 h)).2)
  obtain ⟨c1, c2⟩ := g1.can
  obtain ⟨d1, d2⟩ := puts_can _ L rfl hi
  exact can_ext c1 d1 fun u k => by
    show wrap64 (cf ((grpTs M).filter full) u k) = _
    rw [c2, g3, d2, cf_perm p]
end Go.Proofs.YtipjomdldjbenaaGreat

/-! Adding a term as the reference's loop does it. Plain lists. -/
namespace Go.Proofs.YtipjomdldjbenaaGreat
open Go.RowKit

def one1 (w p : List Int) : List Trm := if p = [] then [] else [(w, p)]
/-- One round of the loop: the list so far, and whether the term is placed. -/
def stepP (w p : List Int) (s : List Trm × Bool) (t : Trm) : List Trm × Bool :=
  if cmpW w t.1 = 0 then (s.1 ++ one1 w (addP t.2 p), true)
  else if cmpW w t.1 < 0 ∧ s.2 = false then ((s.1 ++ one1 w p) ++ [t], true)
  else (s.1 ++ [t], s.2)
def endP (w p : List Int) (s : List Trm × Bool) : List Trm := if s.2 = true then s.1 else s.1 ++ one1 w p
def putF (w p : List Int) (h : List Trm) : List Trm × Bool := h.foldl (stepP w p) ([], false)
theorem putF_step {w p : List Int} {L : List Trm} {k : Nat} {t : Trm} (h : L[k]? = some t) : putF w p (L.take (k + 1)) = stepP w p (putF w p (L.take k)) t := by
  rw [take_step h]
  unfold putF
  rw [List.foldl_append]; rfl
theorem one1_len (w p : List Int) : (one1 w p).length ≤ 1 := by unfold one1; split <;> simp
theorem stepP_len (w p : List Int) (s : List Trm × Bool) (t : Trm) : (stepP w p s t).1.length ≤ s.1.length + 2 := by
  have := one1_len w p
  have := one1_len w (addP t.2 p)
  unfold stepP
  split
  · simp; omega
  · split <;> simp <;> omega
theorem stepP_len1 (w p : List Int) (s : List Trm × Bool) (t : Trm) : (stepP w p s t).1.length + (if (stepP w p s t).2 then 0 else 1) ≤ s.1.length + (if s.2 then 0 else 1) + 1 := by
  have h1 := one1_len w p
  have h2 := one1_len w (addP t.2 p)
  unfold stepP
  by_cases c0 : cmpW w t.1 = 0
  · rw [if_pos c0]; simp; omega
  · rw [if_neg c0]
    by_cases c1 : cmpW w t.1 < 0 ∧ s.2 = false
    · rw [if_pos c1, c1.2]; simp; omega
    · rw [if_neg c1]; simp; omega
theorem putF_len (w p : List Int) : ∀ (L : List Trm) (s : List Trm × Bool), (L.foldl (stepP w p) s).1.length + (if (L.foldl (stepP w p) s).2 then 0 else 1) ≤ s.1.length + (if s.2 then 0 else 1) + L.length
  | [], s => by rw [List.foldl_nil, List.length_nil]; omega
  | t :: L, s => by
    have h1 := stepP_len1 w p s t
    have h2 := putF_len w p L (stepP w p s t)
    rw [List.foldl_cons, List.length_cons]
    omega
theorem putF_after {w p : List Int} : ∀ {h : List Trm} {acc : List Trm}, (∀ t ∈ h, cmpW w t.1 < 0) → h.foldl (stepP w p) (acc, true) = (acc ++ h, true)
  | [], acc, _ => by simp
  | t :: h, acc, hh => by
    have h1 := hh t (List.mem_cons_self ..)
    rw [List.foldl_cons]
    have : stepP w p (acc, true) t = (acc ++ [t], true) := by unfold stepP; rw [if_neg (by omega), if_neg (by simp)]
    rw [this, putF_after (fun s hs => hh s (List.mem_cons_of_mem _ hs)), List.append_assoc]; rfl
theorem putF_all {w p : List Int} : ∀ {h : List Trm} {acc : List Trm}, Can h → endP w p (h.foldl (stepP w p) (acc, false)) = acc ++ putT w p h
  | [], acc, _ => by simp [endP, putT, one1]
  | t :: h, acc, c => by
    rw [List.foldl_cons]
    unfold putT
    by_cases h1 : cmpW w t.1 < 0
    · rw [if_pos h1]
      have : stepP w p (acc, false) t = ((acc ++ one1 w p) ++ [t], true) := by unfold stepP; rw [if_neg (by omega), if_pos ⟨h1, rfl⟩]
      rw [this, putF_after (fun s hs => cmpW_lt_trans h1 (c.tail.2 s hs))]
      simp [endP, one1]
    · rw [if_neg h1]
      by_cases h2 : cmpW w t.1 = 0
      · rw [if_pos h2]
        have : stepP w p (acc, false) t = (acc ++ one1 w (addP t.2 p), true) := by unfold stepP; rw [if_pos h2]
        have e := cmpW_eq.1 h2
        rw [this, putF_after (fun s hs => by rw [e]; exact c.tail.2 s hs)]
        simp [endP, one1]
      · rw [if_neg h2]
        have : stepP w p (acc, false) t = (acc ++ [t], false) := by unfold stepP; rw [if_neg h2, if_neg (by omega)]
        rw [this, putF_all c.tail.1, List.append_assoc]; rfl
theorem putF_eq {w p : List Int} {h : List Trm} (c : Can h) : endP w p (putF w p h) = putT w p h := by
  have := putF_all (w := w) (p := p) (acc := []) c
  rwa [List.nil_append] at this
theorem putF_le (w p : List Int) (L : List Trm) (k : Nat) : (putF w p (L.take k)).1.length ≤ k + 1 := by
  have := putF_len w p (L.take k) ([], false)
  have h2 : (L.take k).length ≤ k := by simp; omega
  unfold putF
  simp at this ⊢
  omega
end Go.Proofs.YtipjomdldjbenaaGreat

/-! Products of polynomials. Condition: sizes up to 2^23. -/
namespace Go.Proofs.YtipjomdldjbenaaGreat
open Go.RowKit
set_option maxRecDepth 20000

/-- The i-th row of the product added to O, its first k numbers. -/
def mulRow (a b : List Int) (i : Nat) (O : List Int) : Nat → List Int
  | 0 => O
  | k + 1 => (mulRow a b i O k).set (i + k) (wrap64 (num (mulRow a b i O k) (i + k) + wrap64 (num a i * num b k)))
def mulTo (a b : List Int) : Nat → List Int
  | 0 => List.replicate (a.length + b.length - 1) 0
  | i + 1 => mulRow a b i (mulTo a b i) b.length
def mulP (a b : List Int) : List Int := if a.length = 0 ∨ b.length = 0 ∨ 62 < a.length + b.length then [] else trim (mulTo a b a.length)
theorem mulRow_len (a b : List Int) (i : Nat) (O : List Int) : ∀ k, (mulRow a b i O k).length = O.length
  | 0 => rfl
  | k + 1 => by unfold mulRow; rw [List.length_set, mulRow_len a b i O k]
theorem mulTo_len (a b : List Int) : ∀ i, (mulTo a b i).length = a.length + b.length - 1
  | 0 => by simp [mulTo]
  | i + 1 => by unfold mulTo; rw [mulRow_len, mulTo_len a b i]
theorem wrap_bounds (x : Int) : -9223372036854775808 ≤ wrap64 x ∧ wrap64 x ≤ 9223372036854775807 := by unfold wrap64; omega
theorem mulRow_in (a b : List Int) (i : Nat) (O : List Int) (h : InI O) : ∀ k, InI (mulRow a b i O k)
  | 0 => h
  | k + 1 => fun x hx => by
    unfold mulRow at hx
    rcases List.mem_or_eq_of_mem_set hx with hx | rfl
    · exact mulRow_in a b i O h k x hx
    · exact wrap_bounds _
theorem mulTo_in (a b : List Int) : ∀ i, InI (mulTo a b i)
  | 0 => fun x hx => by
    unfold mulTo at hx
    have := List.eq_of_mem_replicate hx
    omega
  | i + 1 => by unfold mulTo; exact mulRow_in a b i _ (mulTo_in a b i) _
theorem mulP_ok (a b : List Int) : Trd (mulP a b) ∧ InI (mulP a b) ∧ (mulP a b).length ≤ 62 := by
  unfold mulP
  split
  · exact ⟨.inl rfl, fun x hx => by simp at hx, by simp⟩
  · refine ⟨trd_trim _, fun x hx => mulTo_in a b _ x (trim_mem hx), ?_⟩
    have := trim_le (mulTo a b a.length)
    rw [mulTo_len] at this
    omega
end Go.Proofs.YtipjomdldjbenaaGreat

/-! Lists of terms added one by one: their words, lengths and numbers. Plain lists. -/
namespace Go.Proofs.YtipjomdldjbenaaGreat
open Go.RowKit

theorem putT_len (w p : List Int) : ∀ h : List Trm, (putT w p h).length ≤ h.length + 1
  | [] => by unfold putT; split <;> simp
  | t :: h => by
    have := putT_len w p h
    unfold putT
    split
    · split <;> simp <;> omega
    · split
      · split <;> simp <;> omega
      · simp; omega
theorem putT_words {w p : List Int} : ∀ {h : List Trm} {s : Trm}, s ∈ putT w p h → s.1 = w ∨ ∃ t ∈ h, s.1 = t.1
  | [], s, hs => by
    unfold putT at hs
    split at hs
    · simp at hs
    · simp at hs; subst hs; exact .inl rfl
  | t :: h, s, hs => by
    unfold putT at hs
    split at hs
    · rw [List.mem_append] at hs
      rcases hs with hs | hs
      · split at hs
        · simp at hs
        · simp at hs; subst hs; exact .inl rfl
      · exact .inr ⟨s, hs, rfl⟩
    · split at hs
      · rw [List.mem_append] at hs
        rcases hs with hs | hs
        · split at hs
          · simp at hs
          · simp at hs; subst hs; exact .inl rfl
        · exact .inr ⟨s, List.mem_cons_of_mem _ hs, rfl⟩
      · rcases List.mem_cons.1 hs with rfl | hs
        · exact .inr ⟨s, List.mem_cons_self .., rfl⟩
        · rcases putT_words hs with h1 | ⟨r, hr, h1⟩
          · exact .inl h1
          · exact .inr ⟨r, List.mem_cons_of_mem _ hr, h1⟩
theorem putT_polys {w p : List Int} {B : Nat} (hp : p.length ≤ B) : ∀ {h : List Trm}, (∀ t ∈ h, t.2.length ≤ B) → ∀ s ∈ putT w p h, s.2.length ≤ B
  | [], _, s, hs => by
    unfold putT at hs
    split at hs
    · simp at hs
    · simp at hs; subst hs; exact hp
  | t :: h, hh, s, hs => by
    have ht := hh t (List.mem_cons_self ..)
    have ha := addP_le t.2 p
    unfold putT at hs
    split at hs
    · rw [List.mem_append] at hs
      rcases hs with hs | hs
      · split at hs
        · simp at hs
        · simp at hs; subst hs; exact hp
      · exact hh s hs
    · split at hs
      · rw [List.mem_append] at hs
        rcases hs with hs | hs
        · split at hs
          · simp at hs
          · simp at hs; subst hs; show (addP t.2 p).length ≤ B; omega
        · exact hh s (List.mem_cons_of_mem _ hs)
      · rcases List.mem_cons.1 hs with rfl | hs
        · exact ht
        · exact putT_polys hp (fun r hr => hh r (List.mem_cons_of_mem _ hr)) s hs
/-- What holds of a list added up. -/
theorem puts_all {A B : Nat} : ∀ (n : Nat) (L : List Trm), L.length = n → (∀ t ∈ L, t.1.length ≤ A ∧ t.2.length ≤ B) → (puts L).length ≤ n ∧ ∀ t ∈ puts L, t.1.length ≤ A ∧ t.2.length ≤ B
  | 0, L, hn, _ => by
    have := List.eq_nil_of_length_eq_zero hn
    subst this
    exact ⟨Nat.le_refl _, fun t h => by simp [puts] at h⟩
  | n + 1, L, hn, hi => by
    rcases snoc_cases L with rfl | ⟨a, t, rfl⟩
    · simp at hn
    · have ha : a.length = n := by simp at hn; exact hn
      obtain ⟨g1, g2⟩ := puts_all n a ha (fun s h => hi s (List.mem_append_left _ h))
      have ht := hi t (List.mem_append_right _ (List.mem_singleton.2 rfl))
      rw [puts_snoc]
      have h1 := putT_len t.1 t.2 (puts a)
      refine ⟨by omega, fun s hs => ⟨?_, putT_polys ht.2 (fun r hr => (g2 r hr).2) s hs⟩⟩
      rcases putT_words hs with e | ⟨r, hr, e⟩
      · rw [e]; exact ht.1
      · rw [e]; exact (g2 r hr).1
theorem puts_step {L : List Trm} {k : Nat} {t : Trm} (h : L[k]? = some t) : puts (L.take (k + 1)) = putT t.1 t.2 (puts (L.take k)) := by rw [take_step h, puts_snoc]

/-- The terms of a product with a polynomial. -/
def scT (p : List Int) (h : List Trm) : List Trm := h.map fun t => (t.1, mulP t.2 p)
theorem scT_ok (p : List Int) (h : List Trm) : ∀ t ∈ scT p h, Trd t.2 ∧ InI t.2 := fun t ht => by
  obtain ⟨s, _, rfl⟩ := List.mem_map.1 ht
  exact ⟨(mulP_ok s.2 p).1, (mulP_ok s.2 p).2.1⟩
theorem scT_len {p : List Int} {h : List Trm} {A : Nat} (hA : ∀ t ∈ h, t.1.length ≤ A) : ∀ t ∈ scT p h, t.1.length ≤ A ∧ t.2.length ≤ 62 := fun t ht => by
  obtain ⟨s, hs, rfl⟩ := List.mem_map.1 ht
  exact ⟨hA s hs, (mulP_ok s.2 p).2.2⟩
theorem scT_take (p : List Int) (h : List Trm) (k : Nat) : (scT p h).take k = scT p (h.take k) := by unfold scT; rw [List.map_take]
/-- The product with a polynomial, and whether it is one. -/
def scOk (p : List Int) (h : List Trm) : Bool := h.all fun t => decide (t.2.length + p.length ≤ 62)
theorem sc_collect {p : List Int} {h M : List Trm} (q : M.Perm (scT p h)) (hs : M.Pairwise (fun a b => cmpW a.1 b.1 ≤ 0)) : coll M = puts (scT p h) := coll_puts q hs (scT_ok p h)
end Go.Proofs.YtipjomdldjbenaaGreat
