/- Weights as multiples of simple roots, by the reference. Condition: a Cartan matrix; numbers up to 2000. -/
import Derived.Test.YteglcjembimegaaOwnF
import Derived.Test.YteglcjembimegaaDetS
import Derived.Test.YteglcjembimegaaFinite
import Derived.Test.YteglcjembimegaaRev
import Derived.RegionTactic
import Derived.BigRegion
namespace Go.Proofs.Yteglcjembimegaa
open Go.RowKit
set_option maxRecDepth 20000

set_option maxHeartbeats 1000000 in
theorem copySpec {S : Nat → Prop} {u : Value} {c : List (List Int)} {w : World} (h : RII S w u c) (hl : total c ≤ 16777216) :
    Calls Try.prog 107 #[u] w fun e w' => ∃ r, e = .returned r ∧ FII (New w w') w' r c ∧ Below w.heap.size w w' := by
  obtain ⟨a, cap, rfl⟩ := h.form
  have hcl : c.length ≤ 16777216 := by unfold total at hl; omega
  have HRW : Hid (∀ r ∈ c, r.length ≤ 16777216) := Lib.hid (fun r hr => by have := row_le hr; omega)
  have HR : Hid (c.take c.length = c) := Lib.hid (by simp)
  have HR0 : Hid (c.take 0 = []) := Lib.hid (by simp)
  generalize hn : c.length = n at *
  have HN := Lib.hid hn
  clear hn
  go_enter Try.func107, Try.ntmps107
  go_wp2_with fail
  obtain ⟨w1, hw1⟩ : ∃ w1, w1 = w.alloc (.cells #[] 23) := ⟨_, rfl⟩
  obtain ⟨f1, b1⟩ := FII.empty_of (Below.refl _ w) hw1
  rw [← hw1]
  clear hw1
  rw [← HR0.out] at f1
  go_loopw [3, 4] (fun zz j wr => ∃ (k : Nat) (z : Value), z = zz ∧ k ≤ n ∧ j = .int .i64 k ∧ FII (New w wr) wr z (c.take k) ∧ Below w.heap.size w wr) (fun _ j _ => n - (intOf j).toNat)
  case atStart => exact ⟨0, _, rfl, Nat.zero_le _, rfl, f1, b1⟩
  case round =>
    obtain ⟨k, z, rfl, hk, rfl, hf, hb⟩ := hrel
    by_cases hlt : k < n
    · obtain ⟨b, o, r, l, rfl, hc, hr, hl1⟩ := (h.below hb).at hlt
      obtain ⟨ar, cr, rfl⟩ := hr.form
      have HST : Hid (c.take (k + 1) = c.take k ++ [l]) := Lib.hid (take_step hl1.out)
      have hll := HRW.out l (List.mem_of_getElem? hl1.out)
      have HKL : Hid ((c.take k).length ≤ k) := Lib.hid (by simp; omega)
      generalize c.take k = A at *
      generalize hq : l.length = q at *
      have i1 : (k : Int) < (n : Int) := by omega
      obtain ⟨f2, b2⟩ := fresh_of (w := wr) (Below.refl _ wr) rfl
      have hc2 := (b2.cell (p := ⟨b, o + k, none⟩) (World.block_lt_of_cell? wr _ hc)).trans hc
      go_wp2_with (at_builtin; go_must (refine wpList_app (W := wr) rfl _ _ rfl rfl f2 b2 rfl (hr.below b2) ?_ ?_))
      · simp; omega
      · intro v3 w3 f3 b3 _
        obtain ⟨a3, c3, e3⟩ := f3.form
        have e4 : v3 = .slice a3 q c3 := by rw [e3]; simp [hq]
        subst e4
        clear e3
        have bb : Below w3.heap.size w3 (w3.alloc (.cells #[.slice a3 q c3] 23)) := (Below.refl _ _).alloc (Nat.le_refl _) _
        have b13 := Keeps.step b3 bb
        have hcn : (w3.alloc (.cells #[.slice a3 q c3] 23)).cell? ⟨w3.heap.size, 0, none⟩ = some (.slice a3 q c3) := by go_simp
        have hf2 := hf.below b13
        have hln : A.length + 1 ≤ 67108864 := by have := HKL.out; omega
        have f3' : FI (Bt wr.heap.size (w3.alloc (.cells #[.slice a3 q c3] 23)).heap.size) (w3.alloc (.cells #[.slice a3 q c3] 23)) (.slice a3 q c3) l := f3.grow bb
        go_wp2_with (at_builtin; go_must (refine wpList_appF (W := w) (M := wr.heap.size) rfl _ _ rfl rfl hf2 hb.size b13.size (Keeps.step hb b13) rfl hcn f3' hln ?_))
        intro v5 w5 f5 b5 _
        go_wp2_with fail
        go_roundw
        case rel => exact ⟨k + 1, _, rfl, by omega, by go_num, by rw [HST.out]; exact f5, b5⟩
        case measure => simp [intOf]; omega
    · have hkn : k = n := by omega
      have i1 : ¬ (k : Int) < (n : Int) := by omega
      rw [hkn, HR.out] at hf
      clear hkn
      go_wp2_with fail
      go_ret
      exact ⟨_, rfl, hf, hb⟩

/-- A matrix with a column replaced. -/
def colM (c : List (List Int)) (i : Nat) (v : List Int) : List (List Int) := List.zipWith (fun r x => r.set i x) c v
def colTo (c : List (List Int)) (i : Nat) (v : List Int) (k : Nat) : List (List Int) := colM (c.take k) i v ++ c.drop k
def coord (c : List (List Int)) (v : List Int) (i : Nat) : Int := Fin.det c.length (colM c i v)
def coords (c : List (List Int)) (v : List Int) : Nat → List Int
  | 0 => []
  | k + 1 => coords c v k ++ [coord c v k]
theorem coords_len (c : List (List Int)) (v : List Int) : ∀ k, (coords c v k).length = k
  | 0 => rfl
  | k + 1 => by simp [coords, coords_len c v k]
theorem coords_at (c : List (List Int)) (v : List Int) : ∀ (k j : Nat), j < k → (coords c v k)[j]? = some (coord c v j)
  | 0, j, h => by omega
  | k + 1, j, h => by
    simp only [coords]
    rcases Nat.lt_or_ge j k with h1 | h1
    · rw [List.getElem?_append_left (by rw [coords_len]; exact h1)]
      exact coords_at c v k j h1
    · have : j = k := by omega
      subst this
      rw [List.getElem?_append_right (by rw [coords_len]; exact Nat.le_refl _), coords_len]
      simp
theorem zipTake {α β γ : Type} (f : α → β → γ) : ∀ (l : List α) (l' : List β) (k : Nat), l'.length = l.length → (List.zipWith f (l.take k) l').length = min k l.length
  | l, l', k, h => by simp; omega
theorem colTo_len (c : List (List Int)) (i : Nat) (v : List Int) (k : Nat) (h : v.length = c.length) : (colTo c i v k).length = c.length := by
  unfold colTo colM
  rw [List.length_append, zipTake _ _ _ _ h]
  simp; omega
theorem colTo_at {c : List (List Int)} {i : Nat} {v : List Int} {k : Nat} {r : List Int} (h : v.length = c.length) (hr : c[k]? = some r) : (colTo c i v k)[k]? = some r := by
  have hk : k < c.length := (List.getElem?_eq_some_iff.1 hr).1
  unfold colTo colM
  rw [List.getElem?_append_right (by rw [zipTake _ _ _ _ h]; omega), zipTake _ _ _ _ h, List.getElem?_drop, show k + (k - min k c.length) = k by omega]
  exact hr
theorem colTo_step {c : List (List Int)} {i : Nat} {v : List Int} {k : Nat} {r : List Int} {x : Int} (h : v.length = c.length) (hr : c[k]? = some r) (hx : v[k]? = some x) : (colTo c i v k).set k (r.set i x) = colTo c i v (k + 1) := by
  have hk : k < c.length := (List.getElem?_eq_some_iff.1 hr).1
  refine List.ext_getElem? fun p => ?_
  unfold colTo colM
  have z1 := zipTake (fun (r : List Int) (x : Int) => r.set i x) c v k h
  have z2 := zipTake (fun (r : List Int) (x : Int) => r.set i x) c v (k + 1) h
  by_cases hp : p = k
  · subst hp
    rw [List.getElem?_set_self (by rw [List.length_append, z1]; simp; omega), List.getElem?_append_left (by rw [z2]; omega), List.getElem?_zipWith, List.getElem?_take_of_lt (by omega), hr, hx]
  · rw [List.getElem?_set_ne (by omega)]
    rcases Nat.lt_or_ge p k with h1 | h1
    · rw [List.getElem?_append_left (by rw [z1]; omega), List.getElem?_append_left (by rw [z2]; omega), List.getElem?_zipWith, List.getElem?_zipWith, List.getElem?_take_of_lt h1, List.getElem?_take_of_lt (by omega)]
    · rw [List.getElem?_append_right (by rw [z1]; omega), List.getElem?_append_right (by rw [z2]; omega), z1, z2, List.getElem?_drop, List.getElem?_drop]
      congr 1
      omega
theorem colTo_0 (c : List (List Int)) (i : Nat) (v : List Int) : colTo c i v 0 = c := by simp [colTo, colM]
theorem colTo_n {c : List (List Int)} {i : Nat} {v : List Int} {n : Nat} (hn : c.length = n) : colTo c i v n = colM c i v := by
  unfold colTo
  rw [List.take_of_length_le (by omega), List.drop_of_length_le (by omega), List.append_nil]
theorem colM_sqr {c : List (List Int)} {n : Nat} (h : Sq c n) (i : Nat) {v : List Int} (hv : v.length = n) : Fin.Sqr (colM c i v) n := by
  refine ⟨by simp [colM, h.len, hv], fun r hr => ?_⟩
  unfold colM at hr
  obtain ⟨k, hk, rfl⟩ := List.getElem_of_mem hr
  simp only [List.getElem_zipWith, List.length_set]
  exact h.row k _ (List.getElem?_eq_getElem _)
theorem mem_set_or {l : List Int} {i : Nat} {x y : Int} (h : y ∈ l.set i x) : y = x ∨ y ∈ l := by
  rcases List.mem_or_eq_of_mem_set h with h | h
  · exact .inr h
  · exact .inl h
theorem colM_small {c : List (List Int)} (hc : CartanP c) (i : Nat) {v : List Int} (hv : ∀ x ∈ v, x.natAbs ≤ 2000) : Fin.Small 2000 (colM c i v) := by
  intro r hr x hx
  unfold colM at hr
  obtain ⟨k, hk, rfl⟩ := List.getElem_of_mem hr
  simp only [List.getElem_zipWith] at hx
  rcases mem_set_or hx with rfl | hx
  · exact hv _ (List.getElem_mem _)
  · have hk' : k < c.length := by simp at hk; omega
    obtain ⟨j, hj, rfl⟩ := List.getElem_of_mem hx
    have := ent_small hc k j
    have e : ent c k j = c[k][j] := by simp [ent, hk', hj]
    rw [e] at this
    omega

set_option maxHeartbeats 2000000 in
theorem coordinatesSpec {S S' : Nat → Prop} {u v : Value} {c : List (List Int)} {l : List Int} {w : World} (h : RII S w u c) (h' : RI S' w v l) (hc : CartanP c) (hl : total c ≤ 16777216) (hln : l.length = c.length) (hv : ∀ x ∈ l, x.natAbs ≤ 2000) :
    Calls Try.prog 49 #[u, v] w fun e w' => ∃ r, e = .returned r ∧ FI (New w w') w' r (coords c l c.length) ∧ Below w.heap.size w w' := by
  obtain ⟨a, cap, rfl⟩ := h.form
  obtain ⟨a', cap', rfl⟩ := h'.form
  have hn4 := hc.le
  have HC := Lib.hid hc
  have HS := Lib.hid hc.sq
  have HV := Lib.hid hv
  have HLL := Lib.hid hln
  rw [hln] at h' ⊢
  clear hc hv hln
  have HN : Hid (∀ i, Fin.det c.length (colM c i l) = coord c l i) := Lib.hid (fun _ => rfl)
  generalize hn : c.length = n at *
  have HNN := Lib.hid hn
  clear hn
  go_enter Try.func49, Try.ntmps49
  go_wp2_with fail
  obtain ⟨w1, hw1⟩ : ∃ w1, w1 = w.alloc (.cells #[] 3) := ⟨_, rfl⟩
  obtain ⟨f1, b1⟩ := fresh_of (Below.refl _ w) hw1
  rw [← hw1]
  clear hw1
  go_loopw [5, 6] (fun zz j wr => ∃ (k : Nat) (z : Value), z = zz ∧ k ≤ n ∧ j = .int .i64 k ∧ FI (New w wr) wr z (coords c l k) ∧ Below w.heap.size w wr) (fun _ j _ => n - (intOf j).toNat)
  case atStart => exact ⟨0, _, rfl, Nat.zero_le _, rfl, f1, b1⟩
  case round =>
    obtain ⟨i, z, rfl, hi, rfl, hf, hb⟩ := hrel
    have hal := coords_len c l i
    have HAL := Lib.hid hal
    clear hal
    by_cases hlt : i < n
    · have HST : Hid (coords c l (i + 1) = coords c l i ++ [coord c l i]) := Lib.hid rfl
      generalize coords c l i = A at *
      have i1 : (i : Int) < (n : Int) := by omega
      go_wp2_with fail
      refine (copySpec (h.below hb) hl).mono ?_
      rintro e w2 ⟨r2, rfl, f2, b2⟩
      have b02 := Keeps.step hb b2
      obtain ⟨g, cap2, rfl, hg⟩ := FC.head f2 (by rw [HNN.out]; omega)
      rw [HNN.out]
      have hf2 : FII (New wr w2) w2 (.slice (some ⟨g, 0, none⟩) n cap2) (colTo c i l 0) := by
        rw [colTo_0]
        have f3 := f2
        rw [HNN.out] at f3
        exact f3
      clear f2
      go_wp2_with fail
      generalize wr = wO at *
      go_loopw [8] (fun j wr => ∃ (k : Nat), k ≤ n ∧ j = .int .i64 k ∧ FII (New wO w2) wr (.slice (some ⟨g, 0, none⟩) n cap2) (colTo c i l k) ∧ Only (New wO w2) w2 wr) (fun j _ => n - (intOf j).toNat)
      case atStart => exact ⟨0, Nat.zero_le _, rfl, hf2, Only.refl _ _⟩
      case round =>
        obtain ⟨k, hk, rfl, hfm, ho⟩ := hrel
        have hb02 : Below w.heap.size w wr := b02.trans (ho.below (B := w.heap.size) (fun b hb' => Nat.le_trans hb.size hb'.1))
        by_cases hltk : k < n
        · obtain ⟨b, o, x, e9, hcx, hx⟩ := (h'.below hb02).at hltk
          subst e9
          obtain ⟨r, hr⟩ : ∃ r, c[k]? = some r := ⟨_, List.getElem?_eq_getElem (by rw [HNN.out]; exact hltk)⟩
          have hrl := HS.out.row k r hr
          obtain ⟨gr, cr, hcg, hfr, ⟨y, hcy⟩, hSg, hst⟩ := hfm.store (by rw [colTo_len c i l k (HLL.out.trans HNN.out.symm)]; exact HNN.out) (colTo_at (HLL.out.trans HNN.out.symm) hr) (i := i) (by rw [hrl]; exact hlt)
          rw [hrl] at hcg
          have hst2 := hst x
          rw [colTo_step (HLL.out.trans HNN.out.symm) hr hx.out] at hst2
          have HST2 := Lib.hid hst2
          clear hst hst2 hr hrl
          have i2 : (k : Int) < (n : Int) := by omega
          go_wp2_with fail
          go_region
          go_wp2_with fail
          go_roundw
          case rel => exact ⟨k + 1, by omega, by go_num, FC.keep HST2.out (fun _ _ _ => rfl), (ho.setCell hSg _).drew⟩
          case measure => simp [intOf]; omega
        · have hkn : k = n := by omega
          have i2 : ¬ (k : Int) < (n : Int) := by omega
          rw [hkn, colTo_n HNN.out] at hfm
          clear hkn
          have hz := (hf.below b2).only ho (fun b hb1 hb2 => by have a1 := hb1.2; have a2 := hb2.1; omega)
          have hz2 : FI (New w wr) wr z A := hz.mono (fun b hb' => ⟨hb'.1, by rw [ho.size]; exact Nat.lt_of_lt_of_le hb'.2 b2.size⟩)
          have HCO := Lib.hid (HN.out i)
          go_wp2_with fail
          refine (detSpec (FII.read hfm) (colM_sqr HS.out i HLL.out) (colM_small HC.out i HV.out) (by omega)).mono ?_
          rintro e w5 ⟨rfl, b5⟩
          rw [HCO.out]
          have b05 := Keeps.step hb02 b5
          generalize coord c l i = D at *
          have bb : Below w5.heap.size w5 (w5.alloc (.cells #[.int .i64 D] 3)) := (Below.refl _ _).alloc (Nat.le_refl _) _
          go_wp2_with (at_builtin; go_must (refine wpList_app (W := w) rfl _ _ rfl rfl ((hz2.grow b5).grow bb) (Keeps.step b05 bb) rfl (RI.one _ D) ?_ ?_))
          · have := HAL.out; simp; omega
          · intro v7 w7 f7 b7 _
            go_wp2_with fail
            go_roundw
            case rel => exact ⟨i + 1, _, rfl, by omega, by go_num, by rw [HST.out]; exact f7, b7⟩
            case measure => simp [intOf]; omega
    · have hin : i = n := by omega
      have i1 : ¬ (i : Int) < (n : Int) := by omega
      rw [hin] at hf
      clear hin
      go_wp2_with fail
      go_ret
      exact ⟨_, rfl, hf, hb⟩
end Go.Proofs.Yteglcjembimegaa
