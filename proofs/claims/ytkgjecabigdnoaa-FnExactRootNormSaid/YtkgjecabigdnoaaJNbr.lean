/- The points beside a point, by the program and by the reference. Condition: sizes up to 2^24. -/
import Derived.Test.YtkgjecabigdnoaaJPts
import Derived.Test.YtkgjecabigdnoaaJSums
import Derived.Test.YtkgjecabigdnoaaJWordOf
namespace Go.Proofs.Ytkgjecabigdnoaa
open Go.RowKit
set_option maxRecDepth 20000

abbrev iL (l : List Nat) : List Int := l.map fun (j : Nat) => (j : Int)
def nbrTo (c : List (List Int)) (i k : Nat) : List Nat := (List.range k).filter fun j => decide (j ≠ i) && decide (ent c i j ≠ 0)
theorem nbrTo_step (c : List (List Int)) (i k : Nat) : iL (nbrTo c i (k + 1)) = iL (nbrTo c i k) ++ if k ≠ i ∧ ent c i k ≠ 0 then [(k : Int)] else [] := by
  unfold nbrTo iL
  rw [List.range_succ, List.filter_append, List.map_append]
  congr 1
  by_cases h1 : k = i
  · simp [h1]
  · by_cases h2 : ent c i k = 0
    · simp [h1, h2]
    · simp [h1, h2]
theorem nbrTo_len (c : List (List Int)) (i k : Nat) : (iL (nbrTo c i k)).length ≤ k := by
  unfold nbrTo iL
  rw [List.length_map]
  exact Nat.le_trans (List.length_filter_le _ _) (by simp)

set_option maxHeartbeats 2000000 in
theorem neighboursImpl {S : Nat → Prop} {u : Value} {c : List (List Int)} {i : Nat} {w : World} (h : RII S w u c) (hc : isC c = true) (hi : i < c.length) (hl : total c ≤ 16777216) :
    Calls Try.prog 39 #[u, .int .i64 i] w fun e w' => ∃ r, e = .returned r ∧ FI (New w w') w' r (iL (nbr c i)) ∧ Below w.heap.size w w' := by
  have hC := fun w1 (b1 : Below w.heap.size w w1) => isCartanImpl (h.below b1) hl
  simp only [hc] at hC
  have hP := fun w1 (b1 : Below w.heap.size w w1) => isPoint_any (i : Int) (h.below b1)
  have hpt : ptB c (i : Int) = true := inR_yes ⟨by omega, by omega⟩
  simp only [hpt] at hP
  have HS := Lib.hid (nbrTo_step c i)
  have HL := Lib.hid (nbrTo_len c i)
  have H0 : Hid (iL (nbrTo c i 0) = []) := Lib.hid (by simp [nbrTo])
  have HN : Hid (iL (nbrTo c i c.length) = iL (nbr c i)) := Lib.hid rfl
  have hcp := isC_iff.1 hc
  have h4 : c.length ≤ 4 := hcp.le
  have HROW : Hid (∀ l ∈ c, l.length = c.length) := Lib.hid hcp.row
  have HENT : Hid (∀ (l : List Int) (j : Nat) (x : Int), c[i]? = some l → l[j]? = some x → ent c i j = x) := Lib.hid (fun l j x h1 h2 => by unfold ent; rw [h1]; simp [h2])
  clear hpt hc hcp
  have h0 := h
  obtain ⟨au, cu, rfl⟩ := h.form
  generalize hn : c.length = n at *
  clear hn
  go_enter Try.func39, Try.ntmps39
  go_wp2_with fail
  obtain ⟨w1, hw1⟩ : ∃ w1, w1 = w.alloc (.cells #[] 3) := ⟨_, rfl⟩
  obtain ⟨f1, b1⟩ := fresh_of (Below.refl _ w) hw1
  rw [← H0.out] at f1
  rw [← hw1]
  clear hw1
  refine (hC w1 b1).mono ?_
  rintro e w2 ⟨rfl, m2, hm2⟩
  have b2 : Below w1.heap.size w1 w2 := below_quiet ⟨m2, hm2⟩
  clear hm2
  have b02 := Keeps.step b1 b2
  have f2 := f1.grow b2
  go_wp2_with fail
  refine (hP w2 b02).mono ?_
  rintro e w3 ⟨rfl, rfl⟩
  clear hC hP
  go_wp2_with fail
  go_loopw [5, 20] (fun zz j wr => ∃ (k : Nat) (z : Value), z = zz ∧ k ≤ n ∧ j = .int .i64 k ∧ FI (New w wr) wr z (iL (nbrTo c i k)) ∧ Below w.heap.size w wr) (fun _ j _ => n - (intOf j).toNat)
  case atStart => exact ⟨0, _, rfl, Nat.zero_le _, rfl, f2, b02⟩
  case round =>
    obtain ⟨k, z, rfl, hk, rfl, hf, hb⟩ := hrel
    by_cases hkn : k < n
    · have i1 : (k : Int) < (n : Int) := by omega
      have hkl := HL.out k
      have HS2 := Lib.hid (HS.out k)
      by_cases hki : k = i
      · have HS3 : Hid (iL (nbrTo c i (k + 1)) = iL (nbrTo c i k)) := Lib.hid (by rw [HS2.out, if_neg (by omega), List.append_nil])
        have j1 : ((k : Int) != (i : Int)) = false := by simp; omega
        clear hki
        go_wp2_with fail
        go_roundw
        case rel => exact ⟨k + 1, _, rfl, by omega, by go_num, by rw [HS3.out]; exact hf, hb⟩
        case measure => simp [intOf]; omega
      · have j1 : ((k : Int) != (i : Int)) = true := by simp; omega
        obtain ⟨b, o, r, l, e8, hc, hr, hlx⟩ := (h0.below hb).at hi
        subst e8
        obtain ⟨ar, cr, rfl⟩ := hr.form
        have hln : l.length = n := HROW.out l (List.mem_of_getElem? hlx.out)
        rw [hln] at hr hc
        obtain ⟨b2, o2, x, e9, hcx, hx⟩ := RI.at hr hkn
        subst e9
        have hent := HENT.out l k x hlx.out hx.out
        clear hln
        by_cases hx0 : x = 0
        · have HS3 : Hid (iL (nbrTo c i (k + 1)) = iL (nbrTo c i k)) := Lib.hid (by rw [HS2.out, if_neg (by rw [hent]; omega), List.append_nil])
          have j2 : (x != 0) = false := by simp [hx0]
          clear hx0 hent hki
          go_wp2_with fail
          go_roundw
          case rel => exact ⟨k + 1, _, rfl, by omega, by go_num, by rw [HS3.out]; exact hf, hb⟩
          case measure => simp [intOf]; omega
        · have HS3 : Hid (iL (nbrTo c i (k + 1)) = iL (nbrTo c i k) ++ [(k : Int)]) := Lib.hid (by rw [HS2.out, if_pos ⟨hki, by rw [hent]; exact hx0⟩])
          have j2 : (x != 0) = true := by simp [hx0]
          clear hx0 hent hki
          have bb : ∀ wr : World, Below wr.heap.size wr (wr.alloc (.cells #[.int .i64 k] 3)) := fun wr => (Below.refl wr.heap.size wr).alloc (Nat.le_refl _) _
          go_wp2_with (at_builtin; go_must (refine wpList_app (W := w) rfl _ _ rfl rfl (hf.grow (bb _)) (Keeps.step hb (bb _)) rfl (RI.one _ k) ?_ ?_))
          · simp at hkl ⊢; omega
          · intro v' w4 f4 b4 hg4
            go_wp2_with fail
            go_roundw
            case rel => exact ⟨k + 1, _, rfl, by omega, by go_num, by rw [HS3.out]; exact f4, b4⟩
            case measure => simp [intOf]; omega
    · have hkm : k = n := by omega
      have i1 : ¬ (k : Int) < (n : Int) := by omega
      rw [hkm, HN.out] at hf
      clear hkm
      go_wp2_with fail
      go_ret
      exact ⟨_, rfl, hf, hb⟩

set_option maxHeartbeats 2000000 in
theorem neighboursSpec {S : Nat → Prop} {u : Value} {c : List (List Int)} {i : Nat} {w : World} (h : RII S w u c) (hc : isC c = true) (hi : i < c.length) (hl : total c ≤ 16777216) :
    Calls Try.prog 103 #[u, .int .i64 i] w fun e w' => ∃ r, e = .returned r ∧ FI (New w w') w' r (iL (nbr c i)) ∧ Below w.heap.size w w' := by
  have hC := fun w1 (b1 : Below w.heap.size w w1) => isCartanSpec (h.below b1) hl
  simp only [hc] at hC
  have hP := fun w1 : World => l1In_any (i : Int) 0 ((c.length : Int) - 1) w1
  have hpt : inR (i : Int) 0 ((c.length : Int) - 1) = true := inR_yes ⟨by omega, by omega⟩
  simp only [hpt] at hP
  have HS := Lib.hid (nbrTo_step c i)
  have HL := Lib.hid (nbrTo_len c i)
  have H0 : Hid (iL (nbrTo c i 0) = []) := Lib.hid (by simp [nbrTo])
  have HN : Hid (iL (nbrTo c i c.length) = iL (nbr c i)) := Lib.hid rfl
  have hcp := isC_iff.1 hc
  have h4 : c.length ≤ 4 := hcp.le
  have HROW : Hid (∀ l ∈ c, l.length = c.length) := Lib.hid hcp.row
  have HENT : Hid (∀ (l : List Int) (j : Nat) (x : Int), c[i]? = some l → l[j]? = some x → ent c i j = x) := Lib.hid (fun l j x h1 h2 => by unfold ent; rw [h1]; simp [h2])
  clear hpt hc hcp
  have h0 := h
  obtain ⟨au, cu, rfl⟩ := h.form
  generalize hn : c.length = n at *
  clear hn
  go_enter Try.func103, Try.ntmps103
  go_wp2_with fail
  obtain ⟨w1, hw1⟩ : ∃ w1, w1 = w.alloc (.cells #[] 3) := ⟨_, rfl⟩
  obtain ⟨f1, b1⟩ := fresh_of (Below.refl _ w) hw1
  rw [← H0.out] at f1
  rw [← hw1]
  clear hw1
  go_loopw [5, 6] (fun zz j wr => ∃ (k : Nat) (z : Value), z = zz ∧ k ≤ n ∧ j = .int .i64 k ∧ FI (New w wr) wr z (iL (nbrTo c i k)) ∧ Below w.heap.size w wr) (fun _ j _ => n - (intOf j).toNat)
  case atStart => exact ⟨0, _, rfl, Nat.zero_le _, rfl, f1, b1⟩
  case round =>
    obtain ⟨k, z, rfl, hk, rfl, hf, hb⟩ := hrel
    by_cases hkn : k < n
    · have i1 : (k : Int) < (n : Int) := by omega
      have hkl := HL.out k
      have HS2 := Lib.hid (HS.out k)
      go_wp2_with fail
      refine (hC _ hb).mono ?_
      rintro e w2 ⟨rfl, m2, hm2⟩
      have b2 : Below wr.heap.size wr w2 := below_quiet ⟨m2, hm2⟩
      clear hm2
      have hb := Keeps.step hb b2
      have hf := hf.grow b2
      go_wp2_with fail
      refine (hP w2).mono ?_
      rintro e w3 ⟨rfl, rfl⟩
      by_cases hki : k = i
      · have HS3 : Hid (iL (nbrTo c i (k + 1)) = iL (nbrTo c i k)) := Lib.hid (by rw [HS2.out, if_neg (by omega), List.append_nil])
        have j1 : ((k : Int) != (i : Int)) = false := by simp; omega
        clear hki
        go_wp2_with fail
        go_roundw
        case rel => exact ⟨k + 1, _, rfl, by omega, by go_num, by rw [HS3.out]; exact hf, hb⟩
        case measure => simp [intOf]; omega
      · have j1 : ((k : Int) != (i : Int)) = true := by simp; omega
        obtain ⟨b, o, r, l, e8, hc, hr, hlx⟩ := (h0.below hb).at hi
        subst e8
        obtain ⟨ar, cr, rfl⟩ := hr.form
        have hln : l.length = n := HROW.out l (List.mem_of_getElem? hlx.out)
        rw [hln] at hr hc
        obtain ⟨b2, o2, x, e9, hcx, hx⟩ := RI.at hr hkn
        subst e9
        have hent := HENT.out l k x hlx.out hx.out
        clear hln
        by_cases hx0 : x = 0
        · have HS3 : Hid (iL (nbrTo c i (k + 1)) = iL (nbrTo c i k)) := Lib.hid (by rw [HS2.out, if_neg (by rw [hent]; omega), List.append_nil])
          have j2 : (x != 0) = false := by simp [hx0]
          clear hx0 hent hki
          go_wp2_with fail
          go_roundw
          case rel => exact ⟨k + 1, _, rfl, by omega, by go_num, by rw [HS3.out]; exact hf, hb⟩
          case measure => simp [intOf]; omega
        · have HS3 : Hid (iL (nbrTo c i (k + 1)) = iL (nbrTo c i k) ++ [(k : Int)]) := Lib.hid (by rw [HS2.out, if_pos ⟨hki, by rw [hent]; exact hx0⟩])
          have j2 : (x != 0) = true := by simp [hx0]
          clear hx0 hent hki
          have bb : ∀ wr : World, Below wr.heap.size wr (wr.alloc (.cells #[.int .i64 k] 3)) := fun wr => (Below.refl wr.heap.size wr).alloc (Nat.le_refl _) _
          go_wp2_with (at_builtin; go_must (refine wpList_app (W := w) rfl _ _ rfl rfl (hf.grow (bb _)) (Keeps.step hb (bb _)) rfl (RI.one _ k) ?_ ?_))
          · simp at hkl ⊢; omega
          · intro v' w4 f4 b4 hg4
            go_wp2_with fail
            go_roundw
            case rel => exact ⟨k + 1, _, rfl, by omega, by go_num, by rw [HS3.out]; exact f4, b4⟩
            case measure => simp [intOf]; omega
    · have hkm : k = n := by omega
      have i1 : ¬ (k : Int) < (n : Int) := by omega
      rw [hkm, HN.out] at hf
      clear hkm
      go_wp2_with fail
      go_ret
      exact ⟨_, rfl, hf, hb⟩
end Go.Proofs.Ytkgjecabigdnoaa
