/- Polynomials shifted and scaled. Plain. No condition. The polynomials of all pairs of elements, row by row as the reference makes them and column by column as the program does: the same. Plain lists. -/
import Derived.Test.YtipjomdldjbenaaGreatDoorRGColl
import Derived.Test.YtipjomdldjbenaaGreatDoorRGPoly
import Derived.Test.YtipjomdldjbenaaGreatDoorRGRp
namespace Go.Proofs.YtipjomdldjbenaaGreatDoor
open Go.RowKit
set_option maxRecDepth 20000
theorem num_shiftP (p : List Int) (h k : Nat) : num (shiftP p h) k = if k < h then 0 else num p (k - h) := by
 unfold shiftP
 by_cases h0 : p.length = 0
 ·have : p = [] := List.eq_nil_of_length_eq_zero h0
  subst this
  rw [if_pos (show ([] : List Int).length = 0 from rfl), num_trim]
  simp [num]
 ·rw [if_neg h0, num_trim]
  unfold num
  by_cases hk : k < h
  ·rw [if_pos hk, List.getElem?_append_left (by simpa using hk), List.getElem?_replicate, if_pos hk]; rfl
  ·rw [if_neg hk, List.getElem?_append_right (by simp; omega), List.length_replicate]
theorem trd_shiftP (p : List Int) (h : Nat) : Trd (shiftP p h) := by
 unfold shiftP
 split
 ·exact trd_trim _
 ·exact trd_trim _
theorem shP_len (p : List Int) (h : Nat) : (shiftP p h).length ≤ p.length + h := by
 unfold shiftP
 split
 ·have := trim_le p; omega
 ·have := trim_le (List.replicate h 0 ++ p)
  simp at this
  omega
theorem shP_in {p : List Int} (hi : InI p) (h : Nat) : InI (shiftP p h) := by
 unfold shiftP
 split
 ·exact fun x hx => hi x (trim_mem hx)
 ·intro x hx
  rcases List.mem_append.1 (trim_mem hx) with h' | h'
  ·have := List.eq_of_mem_replicate h'; omega
  ·exact hi x h'
theorem shiftP_nil (h : Nat) : shiftP [] h = [] := rfl
def shK (p : List Int) (h : Nat) : List Int := if trim p = [] then [] else List.replicate h 0 ++ trim p
theorem shK_eq (p : List Int) (h : Nat) : shK p h = shiftP p h := by
 refine trd_ext ?_ (trd_shiftP p h) fun k => ?_
 ·unfold shK
  by_cases h0 : trim p = []
  ·rw [if_pos h0]; exact .inl rfl
  ·rw [if_neg h0]
   refine .inr ?_
   rcases trd_trim p with h1 | h1
   ·exact absurd h1 h0
   ·have hl : 0 < (trim p).length := List.length_pos_iff.2 h0
    unfold num at *
    rw [List.getElem?_append_right (by simp; omega)]
    simp only [List.length_append, List.length_replicate]
    rw [show h + (trim p).length - 1 - h = (trim p).length - 1 by omega]
    exact h1
 ·rw [num_shiftP]
  unfold shK
  by_cases h0 : trim p = []
  ·rw [if_pos h0]
   have : num p (k - h) = 0 := by rw [← num_trim, h0]; simp [num]
   rw [this]
   simp [num]
  ·rw [if_neg h0]
   by_cases hk : k < h
   ·rw [if_pos hk]
    unfold num
    rw [List.getElem?_append_left (by simpa using hk), List.getElem?_replicate, if_pos hk]; rfl
   ·rw [if_neg hk, ← num_trim p]
    unfold num
    rw [List.getElem?_append_right (by simp; omega), List.length_replicate]
theorem wrap64_zero : wrap64 0 = 0 := by unfold wrap64; omega
theorem num_set {l : List Int} {i k : Nat} {x : Int} (hi : i < l.length) : num (l.set i x) k = if k = i then x else num l k := by
 unfold num
 by_cases h : k = i
 ·subst h; rw [if_pos rfl, List.getElem?_set_self hi]; rfl
 ·rw [if_neg h, List.getElem?_set_ne (fun e => h e.symm)]
theorem num_zeros (n k : Nat) : num (List.replicate n (0 : Int)) k = 0 := by
 unfold num
 rw [List.getElem?_replicate]
 split <;> rfl
theorem mulTo_one (q : List Int) (m : Int) : ∀ i, i ≤ q.length → ∀ k, num (mulTo q [m] i) k = if k < i then wrap64 (num q k * m) else 0
 | 0, _, k => by unfold mulTo; rw [num_zeros, if_neg (by omega)]
 | i + 1, hi, k => by
  have ih := mulTo_one q m i (by omega)
  unfold mulTo
  show num (mulRow q [m] i (mulTo q [m] i) 1) k = _
  unfold mulRow mulRow
  rw [Nat.add_zero, num_set (by rw [mulTo_len]; simp; omega), ih i, if_neg (Nat.lt_irrefl i), ih k]
  have e : num [m] 0 = m := rfl
  rw [e]
  by_cases h : k = i
  ·subst h
   rw [if_pos rfl, if_pos (by omega)]
   unfold wrap64; omega
  ·rw [if_neg h]
   by_cases h2 : k < i
   ·rw [if_pos h2, if_pos (by omega)]
   ·rw [if_neg h2, if_neg (by omega)]
theorem mulRow_one (q : List Int) (m : Int) (O : List Int) : ∀ j, j ≤ q.length → q.length ≤ O.length → ∀ k, num (mulRow [m] q 0 O j) k = if k < j then wrap64 (num O k + wrap64 (m * num q k)) else num O k
 | 0, _, _, k => by unfold mulRow; rw [if_neg (by omega)]
 | j + 1, hj, hO, k => by
  have ih := mulRow_one q m O j (by omega) hO
  unfold mulRow
  rw [Nat.zero_add, num_set (by rw [mulRow_len]; omega), ih j, if_neg (Nat.lt_irrefl j), ih k]
  have e : num [m] 0 = m := rfl
  rw [e]
  by_cases h : k = j
  ·subst h
   rw [if_pos rfl, if_pos (by omega)]
  ·rw [if_neg h]
   by_cases h2 : k < j
   ·rw [if_pos h2, if_pos (by omega)]
   ·rw [if_neg h2, if_neg (by omega)]
theorem num_mul_r {q : List Int} (m : Int) (hl : q.length ≤ 61) (k : Nat) : num (mulP q [m]) k = wrap64 (num q k * m) := by
 unfold mulP
 by_cases h0 : q.length = 0
 ·have : q = [] := List.eq_nil_of_length_eq_zero h0
  subst this
  rw [if_pos (.inl rfl)]
  simp [num, wrap64_zero]
 ·rw [if_neg (fun h => h.elim h0 fun h => h.elim (by simp) (by intro h; simp at h; omega)), num_trim, mulTo_one q m _ (Nat.le_refl _)]
  by_cases hk : k < q.length
  ·rw [if_pos hk]
  ·rw [if_neg hk, num_out (by omega)]
   simp [wrap64_zero]
theorem num_mul_l {q : List Int} (m : Int) (hl : q.length ≤ 61) (k : Nat) : num (mulP [m] q) k = wrap64 (num q k * m) := by
 unfold mulP
 by_cases h0 : q.length = 0
 ·have : q = [] := List.eq_nil_of_length_eq_zero h0
  subst this
  rw [if_pos (.inr (.inl rfl))]
  simp [num, wrap64_zero]
 ·rw [if_neg (fun h => h.elim (by simp) fun h => h.elim h0 (by intro h; simp at h; omega)), num_trim]
  show num (mulRow [m] q 0 (List.replicate ([m].length + q.length - 1) 0) q.length) k = _
  rw [mulRow_one q m _ _ (Nat.le_refl _) (by simp), num_zeros]
  by_cases hk : k < q.length
  ·rw [if_pos hk, Int.mul_comm]
   unfold wrap64; omega
  ·rw [if_neg hk, num_out (by omega)]
   simp [wrap64_zero]
theorem scale_shift {q : List Int} (m : Int) (h : Nat) (hl : q.length + h ≤ 61) : shiftP (mulP q [m]) h = mulP [m] (shiftP q h) := by
 refine trd_ext (trd_shiftP _ _) (mulP_ok _ _).1 fun k => ?_
 have := shP_len q h
 rw [num_shiftP, num_mul_l m (by omega), num_shiftP]
 by_cases hk : k < h
 ·rw [if_pos hk, if_pos hk]; simp [wrap64_zero]
 ·rw [if_neg hk, if_neg hk, num_mul_r m (by omega)]
theorem mulP_nil (b : List Int) : mulP [] b = [] := by unfold mulP; rw [if_pos (.inl rfl)]
theorem mulP_one_len (q : List Int) (m : Int) : (mulP q [m]).length ≤ q.length := by
 unfold mulP
 split
 ·simp
 ·have := trim_le (mulTo q [m] q.length)
  rw [mulTo_len] at this
  simp at this ⊢
  omega
theorem addP_nil {p : List Int} (h : Trd p) (hi : InI p) : addP p [] = p := by
 refine trd_ext (trd_addP _ _) h fun k => ?_
 rw [num_addP]
 have e : num [] k = 0 := by simp [num]
 rw [e, Int.add_zero]
 have := hi.num k
 unfold wrap64; omega
theorem subP_nil {p : List Int} (h : Trd p) (hi : InI p) : subP p [] = p := addP_nil h hi
def lenE (E : List (List Int)) (n : Nat) : Nat := ((E[n]?).getD []).length
def hdE (E : List (List Int)) (n : Nat) : Nat := (num ((E[n]?).getD []) 0).toNat
def muS (p : List Int) (d : Int) : Int := if d < 0 ∨ d % 2 = 0 ∨ p.length ≤ ((d - 1) / 2).toNat then 0 else num p ((d - 1) / 2).toNat
def muI (p : List Int) (d : Int) : Int := if d ≤ 0 ∨ d % 2 = 0 ∨ p.length ≤ ((d - 1) / 2).toNat then 0 else num p ((d - 1) / 2).toNat
theorem mu_same (p : List Int) {d : Int} : muI p d = muS p d := by
 unfold muI muS
 by_cases h : d = 0
 ·subst h; rw [if_pos (.inl (by omega)), if_pos (.inr (.inl rfl))]
 ·by_cases h2 : d < 0
  ·rw [if_pos (.inl (by omega)), if_pos (.inl h2)]
  ·by_cases h3 : d % 2 = 0 ∨ p.length ≤ ((d - 1) / 2).toNat
   ·rw [if_pos (.inr h3), if_pos (.inr h3)]
   ·rw [if_neg (fun h => h.elim (by omega) h3), if_neg (fun h => h.elim (by omega) h3)]
theorem muI_neg (p : List Int) {d : Int} (h : d ≤ 0) : muI p d = 0 := by unfold muI; rw [if_pos (.inl h)]
section
variable (E : List (List Int)) (tab : Nat → Nat → Nat)
def lookR (R : List (List (List Int))) (v u : Nat) : List Int := (((R[v]?).getD [])[u]?).getD []
def klStart (P : Nat → Nat → List Int) (k s u : Nat) : List Int :=
 if lenE E (tab u s) < lenE E u then addP (P k (tab u s)) (shiftP (P k u) 1) else addP (shiftP (P k (tab u s)) 1) (P k u)
def klZ (P : Nat → Nat → List Int) (n k s u : Nat) (p : List Int) (z : Nat) : List Int :=
 if muS (P k z) ((lenE E k : Int) - lenE E z) ≠ 0 ∧ lenE E (tab z s) < lenE E z then subP p (shiftP (mulP (P z u) [muS (P k z) ((lenE E k : Int) - lenE E z)]) ((lenE E n - lenE E z) / 2)) else p
def klNext (P : Nat → Nat → List Int) (n u : Nat) : List Int :=
 (List.range (tab n (hdE E n))).foldl (klZ E tab P n (tab n (hdE E n)) (hdE E n) u) (klStart E tab P (tab n (hdE E n)) (hdE E n) u)
def rowS (P : Nat → Nat → List Int) (n u : Nat) : List Int := if n = 0 then (if u = 0 then [1] else []) else klNext E tab P n u
def rws : Nat → List (List (List Int))
 | 0 => []
 | n + 1 => rws n ++ [(List.range E.length).map (rowS E tab (lookR (rws n)) n)]
def klY (P : Nat → Nat → List Int) (n k s u : Nat) (p : List Int) (z : Nat) : List Int :=
 if muI (P k z) ((lenE E k : Int) - lenE E z) ≠ 0 ∧ lenE E (tab z s) < lenE E z then subP p (mulP [muI (P k z) ((lenE E k : Int) - lenE E z)] (shiftP (P z u) ((lenE E n - lenE E z) / 2))) else p
def klMade (P : Nat → Nat → List Int) (v u : Nat) : List Int :=
 if u = v then [1] else if lenE E v ≤ lenE E u then [] else
  (List.range E.length).foldl (klY E tab P v (tab v (hdE E v)) (hdE E v) u) (klStart E tab P (tab v (hdE E v)) (hdE E v) u)
def cws : Nat → List (List (List Int))
 | 0 => []
 | n + 1 => cws n ++ [(List.range E.length).map (klMade E tab (lookR (cws n)) n)]
structure TabOk (r : Nat) : Prop where
 few : E.length ≤ 24
 srt : ∀ i j, i ≤ j → j < E.length → lenE E i ≤ lenE E j
 one : lenE E 0 = 0
 pos : ∀ i, 0 < i → i < E.length → 0 < lenE E i
 deep : ∀ i, lenE E i ≤ 24
 lt : ∀ z i, z < E.length → i < r → tab z i < E.length
 inv : ∀ z i, z < E.length → i < r → tab (tab z i) i = z
 ud : ∀ z i, z < E.length → i < r → lenE E (tab z i) = lenE E z + 1 ∨ lenE E (tab z i) + 1 = lenE E z
 hd : ∀ n, 0 < n → n < E.length → hdE E n < r ∧ lenE E (tab n (hdE E n)) + 1 = lenE E n
structure RowsOk (R : List (List (List Int))) (n : Nat) : Prop where
 trd : ∀ v u, Trd (lookR R v u)
 ini : ∀ v u, InI (lookR R v u)
 len : ∀ v u, (lookR R v u).length ≤ lenE E v + 1
 self : ∀ v, v < n → lookR R v v = [1]
 out : ∀ v u, v < n → u < E.length → u ≠ v → lenE E v ≤ lenE E u → lookR R v u = []
end
section
variable {E : List (List Int)} {tab : Nat → Nat → Nat} {r : Nat} {R : List (List (List Int))} {n : Nat}
theorem lookR_out {v u : Nat} (h : R.length ≤ v) : lookR R v u = [] := by unfold lookR; rw [List.getElem?_eq_none h]; rfl
theorem lookR_old {L : List (List Int)} {v u : Nat} (h : v < R.length) : lookR (R ++ [L]) v u = lookR R v u := by unfold lookR; rw [List.getElem?_append_left h]
theorem lookR_new {L : List (List Int)} {u : Nat} : lookR (R ++ [L]) R.length u = (L[u]?).getD [] := by unfold lookR; rw [List.getElem?_append_right (Nat.le_refl _), Nat.sub_self]; rfl
theorem rws_len (E : List (List Int)) (tab : Nat → Nat → Nat) : ∀ n, (rws E tab n).length = n
 | 0 => rfl
 | n + 1 => by unfold rws; rw [List.length_append, rws_len E tab n]; rfl
theorem cws_len (E : List (List Int)) (tab : Nat → Nat → Nat) : ∀ n, (cws E tab n).length = n
 | 0 => rfl
 | n + 1 => by unfold cws; rw [List.length_append, cws_len E tab n]; rfl
theorem TabOk.k_lt (h : TabOk E tab r) {n : Nat} (h0 : 0 < n) (hn : n < E.length) : tab n (hdE E n) < n := by
 obtain ⟨h1, h2⟩ := h.hd n h0 hn
 rcases Nat.lt_or_ge (tab n (hdE E n)) n with h3 | h3
 ·exact h3
 ·have := h.srt n _ h3 (h.lt n _ hn h1)
  omega
theorem klStart_ok (hR : RowsOk E R n) (k s u : Nat) : Trd (klStart E tab (lookR R) k s u) ∧ InI (klStart E tab (lookR R) k s u) ∧ (klStart E tab (lookR R) k s u).length ≤ lenE E k + 2 := by
 unfold klStart
 split
 ·refine ⟨trd_addP _ _, addP_in _ _, ?_⟩
  have h1 := addP_le (lookR R k (tab u s)) (shiftP (lookR R k u) 1)
  have h2 := shP_len (lookR R k u) 1
  have h3 := hR.len k u
  have h4 := hR.len k (tab u s)
  omega
 ·refine ⟨trd_addP _ _, addP_in _ _, ?_⟩
  have h1 := addP_le (shiftP (lookR R k (tab u s)) 1) (lookR R k u)
  have h2 := shP_len (lookR R k (tab u s)) 1
  have h3 := hR.len k u
  have h4 := hR.len k (tab u s)
  omega
theorem klZ_ok (_h : TabOk E tab r) (hR : RowsOk E R n) {m k s u z : Nat} {p : List Int} (hz : lenE E z ≤ lenE E m) (hp : Trd p ∧ InI p ∧ p.length ≤ lenE E m + 1) :
  Trd (klZ E tab (lookR R) m k s u p z) ∧ InI (klZ E tab (lookR R) m k s u p z) ∧ (klZ E tab (lookR R) m k s u p z).length ≤ lenE E m + 1 := by
 unfold klZ
 split
 ·refine ⟨trd_addP _ _, subP_in _ _, ?_⟩
  generalize muS (lookR R k z) ((lenE E k : Int) - lenE E z) = q
  have h1 := subP_le p (shiftP (mulP (lookR R z u) [q]) ((lenE E m - lenE E z) / 2))
  have h2 := shP_len (mulP (lookR R z u) [q]) ((lenE E m - lenE E z) / 2)
  have h3 := mulP_one_len (lookR R z u) q
  have h4 := hR.len z u
  omega
 ·exact hp
theorem fold_ok {α β : Type} {P : β → Prop} {f : β → α → β} : ∀ {L : List α} {b : β}, P b → (∀ b a, a ∈ L → P b → P (f b a)) → P (L.foldl f b)
 | [], _, h, _ => h
 | a :: L, _, h, hf => fold_ok (L := L) (hf _ a (List.mem_cons_self ..) h) (fun b x hx hb => hf b x (List.mem_cons_of_mem _ hx) hb)
theorem fold_stay {α β : Type} {f : β → α → β} : ∀ {L : List α} {b : β}, (∀ a ∈ L, f b a = b) → L.foldl f b = b
 | [], _, _ => rfl
 | a :: L, b, h => by rw [List.foldl_cons, h a (List.mem_cons_self ..)]; exact fold_stay (fun x hx => h x (List.mem_cons_of_mem _ hx))
theorem fold_same {α β : Type} {P : β → Prop} {f g : β → α → β} : ∀ {L : List α} {b : β}, P b → (∀ b a, a ∈ L → P b → P (f b a)) → (∀ b a, a ∈ L → P b → f b a = g b a) → L.foldl f b = L.foldl g b
 | [], _, _, _, _ => rfl
 | a :: L, b, h, hf, hg => by
  rw [List.foldl_cons, List.foldl_cons, ← hg b a (List.mem_cons_self ..) h]
  exact fold_same (hf _ a (List.mem_cons_self ..) h) (fun b x hx hb => hf b x (List.mem_cons_of_mem _ hx) hb) (fun b x hx hb => hg b x (List.mem_cons_of_mem _ hx) hb)
theorem next_ok (h : TabOk E tab r) (hR : RowsOk E R n) (h0 : 0 < n) (hn : n < E.length) {u : Nat} (hu : u < E.length) :
  (Trd (klNext E tab (lookR R) n u) ∧ InI (klNext E tab (lookR R) n u) ∧ (klNext E tab (lookR R) n u).length ≤ lenE E n + 1) ∧ klNext E tab (lookR R) n u = klMade E tab (lookR R) n u := by
 obtain ⟨hs, hk1⟩ := h.hd n h0 hn
 have hkn := h.k_lt h0 hn
 have hkE : tab n (hdE E n) < E.length := Nat.lt_trans hkn hn
 have hself := hR.self _ hkn
 have hinv := h.inv n (hdE E n) hn hs
 unfold klNext klMade
 generalize hdE E n = s at *
 generalize hk : tab n s = k at *
 have hz : ∀ z, z < k → lenE E z ≤ lenE E k := fun z hz => h.srt z k (Nat.le_of_lt hz) hkE
 have hst := klStart_ok (tab := tab) hR k s u
 have hone : Trd [(1 : Int)] ∧ InI [(1 : Int)] := ⟨.inr (by decide), one_in⟩
 have e10 : shiftP [] 1 = ([] : List Int) := rfl
 have hstay : ∀ {p : List Int}, Trd p → InI p → (∀ z, z < k → lookR R z u = []) → (List.range k).foldl (klZ E tab (lookR R) n k s u) p = p := fun {p} h1 h2 h3 => by
  refine fold_stay fun z hzm => ?_
  unfold klZ
  rw [h3 z (List.mem_range.1 hzm), mulP_nil, shiftP_nil, subP_nil h1 h2]
  split <;> rfl
 by_cases hun : u = n
 ·subst hun
  rw [if_pos rfl]
  have hku : lookR R k u = [] := hR.out k u hkn hu (by omega) (by omega)
  have e1 : klStart E tab (lookR R) k s u = [1] := by
   unfold klStart
   rw [hk, if_pos (by omega), hself, hku, e10, addP_nil hone.1 hone.2]
  have e2 : (List.range k).foldl (klZ E tab (lookR R) u k s u) (klStart E tab (lookR R) k s u) = [1] := by
   rw [e1]
   exact hstay hone.1 hone.2 (fun z hz' => hR.out z u (by omega) hu (by omega) (by have := hz z hz'; omega))
  rw [e2]
  exact ⟨⟨hone.1, hone.2, by simp⟩, rfl⟩
 ·rw [if_neg hun]
  by_cases hle : lenE E n ≤ lenE E u
  ·rw [if_pos hle]
   have hku : lookR R k u = [] := hR.out k u hkn hu (fun e => by subst e; omega) (by omega)
   have hnx : tab u s ≠ k := fun e => by
    have := h.inv u s hu hs
    rw [e, hinv] at this
    exact hun this.symm
   have hkx : lookR R k (tab u s) = [] := by
    have := h.ud u s hu hs
    exact hR.out k _ hkn (h.lt u s hu hs) hnx (by omega)
   have e0 : addP [] [] = ([] : List Int) := addP_nil (.inl rfl) nil_in
   have e1 : klStart E tab (lookR R) k s u = [] := by
    unfold klStart
    rw [hku, hkx, e10, e0]
    split <;> rfl
   have e2 : (List.range k).foldl (klZ E tab (lookR R) n k s u) (klStart E tab (lookR R) k s u) = [] := by
    rw [e1]
    exact hstay (.inl rfl) nil_in (fun z hz' => hR.out z u (by omega) hu (fun e => by subst e; have := hz u hz'; omega) (by have := hz z hz'; omega))
   rw [e2]
   exact ⟨⟨.inl rfl, nil_in, by simp⟩, rfl⟩
  ·rw [if_neg hle]
   have hP : Trd (klStart E tab (lookR R) k s u) ∧ InI (klStart E tab (lookR R) k s u) ∧ (klStart E tab (lookR R) k s u).length ≤ lenE E n + 1 := ⟨hst.1, hst.2.1, by have := hst.2.2; omega⟩
   have hstep : ∀ (p : List Int) (z : Nat), z ∈ List.range k → (Trd p ∧ InI p ∧ p.length ≤ lenE E n + 1) → (Trd (klZ E tab (lookR R) n k s u p z) ∧ InI (klZ E tab (lookR R) n k s u p z) ∧ (klZ E tab (lookR R) n k s u p z).length ≤ lenE E n + 1) :=
    fun p z hzm hp => klZ_ok h hR (by have := hz z (List.mem_range.1 hzm); omega) hp
   refine ⟨fold_ok (P := fun p => Trd p ∧ InI p ∧ p.length ≤ lenE E n + 1) hP hstep, ?_⟩
   have hsplit : List.range E.length = List.range k ++ (List.range (E.length - k)).map (k + ·) := by
    rw [← List.range_add]; congr 1; omega
   rw [hsplit, List.foldl_append]
   have e1 : (List.range k).foldl (klZ E tab (lookR R) n k s u) (klStart E tab (lookR R) k s u) = (List.range k).foldl (klY E tab (lookR R) n k s u) (klStart E tab (lookR R) k s u) := by
    refine fold_same (P := fun p => Trd p ∧ InI p ∧ p.length ≤ lenE E n + 1) hP hstep fun p z hzm hp => ?_
    have hzk := hz z (List.mem_range.1 hzm)
    have h4 := hR.len z u
    have h5 := h.deep n
    unfold klZ klY
    rw [mu_same]
    by_cases hc : muS (lookR R k z) ((lenE E k : Int) - lenE E z) ≠ 0 ∧ lenE E (tab z s) < lenE E z
    ·rw [if_pos hc, if_pos hc, scale_shift _ _ (by omega)]
    ·rw [if_neg hc, if_neg hc]
   rw [← e1]
   refine (fold_stay fun z hzm => ?_).symm
   obtain ⟨j, hj, rfl⟩ := List.mem_map.1 hzm
   have hj := List.mem_range.1 hj
   have hzk := h.srt k (k + j) (by omega) (by omega)
   unfold klY
   rw [muI_neg _ (by omega), if_neg (fun hc => hc.1 rfl)]
theorem RowsOk.start : RowsOk E [] 0 := ⟨fun _ _ => .inl (by simp [lookR]), fun _ _ x hx => by simp [lookR] at hx, fun _ _ => by simp [lookR], fun v hv => by omega, fun v u hv => by omega⟩
theorem row_at {f : Nat → List Int} {N u : Nat} : (((List.range N).map f)[u]?).getD [] = if u < N then f u else [] := by
 rw [List.getElem?_map]
 by_cases h : u < N
 ·rw [List.getElem?_range h, if_pos h]; rfl
 ·rw [List.getElem?_eq_none (by simp; omega), if_neg h]; rfl
theorem made_eq (h : TabOk E tab r) (hR : RowsOk E R n) (hl : R.length = n) (hn : n < E.length) :
  (List.range E.length).map (rowS E tab (lookR R) n) = (List.range E.length).map (klMade E tab (lookR R) n) ∧ RowsOk E (R ++ [(List.range E.length).map (klMade E tab (lookR R) n)]) (n + 1) := by
 have hone : Trd [(1 : Int)] ∧ InI [(1 : Int)] := ⟨.inr (by decide), one_in⟩
 have key : ∀ u, u < E.length → rowS E tab (lookR R) n u = klMade E tab (lookR R) n u ∧ (Trd (klMade E tab (lookR R) n u) ∧ InI (klMade E tab (lookR R) n u) ∧ (klMade E tab (lookR R) n u).length ≤ lenE E n + 1) := fun u hu => by
  unfold rowS
  by_cases h0 : n = 0
  ·subst h0
   rw [if_pos rfl]
   have e : klMade E tab (lookR R) 0 u = if u = 0 then [1] else [] := by
    unfold klMade
    by_cases hu0 : u = 0
    ·rw [if_pos hu0, if_pos hu0]
    ·rw [if_neg hu0, if_neg hu0, h.one, if_pos (Nat.zero_le _)]
   rw [e]
   refine ⟨rfl, ?_⟩
   split
   ·exact ⟨hone.1, hone.2, by simp⟩
   ·exact ⟨.inl rfl, nil_in, by simp⟩
  ·rw [if_neg h0]
   obtain ⟨h1, h2⟩ := next_ok h hR (by omega) hn hu
   refine ⟨h2, ?_⟩
   rw [← h2]
   exact h1
 refine ⟨List.map_congr_left fun u hu => (key u (List.mem_range.1 hu)).1, ?_⟩
 have hlook : ∀ v u, lookR (R ++ [(List.range E.length).map (klMade E tab (lookR R) n)]) v u = if v < n then lookR R v u else if v = n ∧ u < E.length then klMade E tab (lookR R) n u else [] := fun v u => by
  by_cases hv : v < n
  ·rw [if_pos hv, lookR_old (by omega)]
  ·rw [if_neg hv]
   by_cases hvn : v = n
   ·subst hvn
    rw [← hl, lookR_new, row_at]
    by_cases hu : u < E.length
    ·rw [if_pos hu, if_pos ⟨rfl, hu⟩]
    ·rw [if_neg hu, if_neg (fun h => hu h.2)]
   ·rw [if_neg (fun h => hvn h.1), lookR_out (by simp; omega)]
 refine ⟨fun v u => ?_, fun v u => ?_, fun v u => ?_, fun v hv => ?_, fun v u hv hu huv hlen => ?_⟩
 ·rw [hlook]
  split
  ·exact hR.trd v u
  ·split
   ·rename_i hc; exact (key u hc.2).2.1
   ·exact .inl rfl
 ·rw [hlook]
  split
  ·exact hR.ini v u
  ·split
   ·rename_i hc; exact (key u hc.2).2.2.1
   ·exact nil_in
 ·rw [hlook]
  split
  ·exact hR.len v u
  ·split
   ·rename_i hc; rw [hc.1]; exact (key u hc.2).2.2.2
   ·simp
 ·rw [hlook]
  by_cases hvn : v < n
  ·rw [if_pos hvn]; exact hR.self v hvn
  ·have : v = n := by omega
   subst this
   rw [if_neg hvn, if_pos ⟨rfl, hn⟩]
   unfold klMade
   rw [if_pos rfl]
 ·rw [hlook]
  by_cases hvn : v < n
  ·rw [if_pos hvn]; exact hR.out v u hvn hu huv hlen
  ·have : v = n := by omega
   subst this
   rw [if_neg hvn, if_pos ⟨rfl, hu⟩]
   unfold klMade
   rw [if_neg huv, if_pos hlen]
theorem rws_cws (h : TabOk E tab r) : ∀ n, n ≤ E.length → rws E tab n = cws E tab n ∧ RowsOk E (cws E tab n) n
 | 0, _ => ⟨rfl, RowsOk.start⟩
 | n + 1, hn => by
  obtain ⟨h1, h2⟩ := rws_cws h n (by omega)
  obtain ⟨h3, h4⟩ := made_eq h h2 (cws_len E tab n) (by omega)
  unfold rws cws
  rw [h1]
  exact ⟨by rw [h3], h4⟩
end
end Go.Proofs.YtipjomdldjbenaaGreatDoor
