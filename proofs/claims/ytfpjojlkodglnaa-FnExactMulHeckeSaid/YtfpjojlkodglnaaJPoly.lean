/- Values, sums and differences of polynomials, by the reference; values by the program. Condition: at most 2^23 numbers of Go's int. -/
import Derived.Test.YtfpjojlkodglnaaJTrim
import Derived.Test.YtfpjojlkodglnaaJAppS
namespace Go.Proofs.Ytfpjojlkodglnaa
open Go.RowKit
set_option maxRecDepth 20000

def evalP (x : Int) : List Int → Int
  | [] => 0
  | y :: ys => wrap64 (wrap64 (evalP x ys * x) + y)
theorem evalP_step {x : Int} {l : List Int} {k : Nat} {y : Int} (h : l[k]? = some y) : evalP x (l.drop k) = wrap64 (wrap64 (evalP x (l.drop (k + 1)) * x) + y) := by rw [drop_step h]; rfl

/-- The sum, number by number, and without zeros at its end. -/
def sumTo (a b : List Int) (n : Nat) : List Int := (List.range n).map fun k => wrap64 (num a k + num b k)
def addP (a b : List Int) : List Int := trim (sumTo a b (max a.length b.length))
theorem sumTo_step (a b : List Int) (k : Nat) : sumTo a b (k + 1) = sumTo a b k ++ [wrap64 (num a k + num b k)] := by simp [sumTo, List.range_succ]
theorem sumTo_len (a b : List Int) (k : Nat) : (sumTo a b k).length = k := by simp [sumTo]
theorem num_out {l : List Int} {k : Nat} (h : l.length ≤ k) : num l k = 0 := by simp [num, List.getElem?_eq_none h]
theorem wrap_in {x : Int} (h : -9223372036854775808 ≤ x ∧ x ≤ 9223372036854775807) : wrap64 x = x := by unfold wrap64; omega
def InI (l : List Int) : Prop := ∀ x ∈ l, -9223372036854775808 ≤ x ∧ x ≤ 9223372036854775807

set_option maxHeartbeats 1000000 in
theorem addSpec {S S' : Nat → Prop} {u v : Value} {l l' : List Int} {w : World} (h : RI S w u l) (h' : RI S' w v l') (hi : InI l) (hi' : InI l') (hl : l.length ≤ 8388608) (hl' : l'.length ≤ 8388608) :
    Calls Try.prog 55 #[u, v] w fun e w' => ∃ r, e = .returned r ∧ FI (New w w') w' r (addP l l') ∧ Below w.heap.size w w' := by
  obtain ⟨a, cap, rfl⟩ := h.form
  obtain ⟨a', cap', rfl⟩ := h'.form
  have HR : Hid (trim (sumTo l l' (max l.length l'.length)) = addP l l') := Lib.hid rfl
  have HB : Hid (∀ (k : Nat) (x y : Int), l[k]? = some x → l'[k]? = some y → sumTo l l' (k + 1) = sumTo l l' k ++ [wrap64 (x + y)]) := Lib.hid (fun k x y hx hy => by rw [sumTo_step, num_at hx, num_at hy])
  have HL : Hid (∀ (k : Nat) (x : Int), l[k]? = some x → l'.length ≤ k → sumTo l l' (k + 1) = sumTo l l' k ++ [x]) := Lib.hid (fun k x hx hk => by rw [sumTo_step, num_at hx, num_out hk, Int.add_zero, wrap_in (hi x (List.mem_of_getElem? hx))])
  have HRR : Hid (∀ (k : Nat) (y : Int), l'[k]? = some y → l.length ≤ k → sumTo l l' (k + 1) = sumTo l l' k ++ [y]) := Lib.hid (fun k y hy hk => by rw [sumTo_step, num_at hy, num_out hk, Int.zero_add, wrap_in (hi' y (List.mem_of_getElem? hy))])
  have HW : Hid (∀ y ∈ l', -9223372036854775808 ≤ y ∧ y ≤ 9223372036854775807) := Lib.hid hi'
  have HLEN := Lib.hid (sumTo_len l l')
  have hm0 : max l.length l'.length ≤ 8388608 := by omega
  clear hi hi'
  generalize addP l l' = res at *
  generalize hn : l.length = n at *
  have HN := Lib.hid hn
  clear hn
  generalize hm : l'.length = m at *
  have HM := Lib.hid hm
  clear hm
  go_enter Try.func55, Try.ntmps55
  go_wp2_with fail
  obtain ⟨w1, hw1⟩ : ∃ w1, w1 = w.alloc (.cells #[] 3) := ⟨_, rfl⟩
  obtain ⟨f1, b1⟩ := fresh_of (Below.refl _ w) hw1
  rw [← hw1]
  clear hw1
  have f1 : FI (New w w1) w1 (.slice (some ⟨w.heap.size, 0, none⟩) 0 0) (sumTo l l' 0) := f1
  go_loopw [5, 6] (fun zz j wr => ∃ (k : Nat) (z : Value), z = zz ∧ k ≤ max n m ∧ j = .int .i64 k ∧ FI (New w wr) wr z (sumTo l l' k) ∧ Below w.heap.size w wr) (fun _ j _ => max n m - (intOf j).toNat)
  case atStart => exact ⟨0, _, rfl, Nat.zero_le _, rfl, f1, b1⟩
  case round =>
    obtain ⟨k, z, rfl, hk, rfl, hf, hb⟩ := hrel
    have hal := HLEN.out k
    have HAL := Lib.hid hal
    clear hal
    by_cases h1 : k < n
    · obtain ⟨b, o, x, e8, hcx, hx⟩ := (h.below hb).at h1
      subst e8
      have i1 : (k : Int) < (n : Int) := by omega
      by_cases h2 : k < m
      · obtain ⟨b2, o2, y, e9, hcy, hy⟩ := (h'.below hb).at h2
        subst e9
        have HST := Lib.hid (HB.out k x y hx.out hy.out)
        generalize sumTo l l' k = A at *
        have i2 : (k : Int) < (m : Int) := by omega
        have bb : Below wr.heap.size wr (wr.alloc (.cells #[.int .i64 (wrap64 (x + y))] 3)) := (Below.refl _ _).alloc (Nat.le_refl _) _
        go_wp2_with (at_builtin; go_must (refine wpList_app (W := w) rfl _ _ rfl rfl (hf.grow bb) (Keeps.step hb bb) rfl (RI.one _ (wrap64 (x + y))) ?_ ?_))
        · have := HAL.out; simp; omega
        · intro v7 w7 f7 b7 _
          go_wp2_with fail
          go_roundw
          case rel => exact ⟨k + 1, _, rfl, by omega, by go_num, by rw [HST.out]; exact f7, b7⟩
          case measure => simp [intOf]; omega
      · have HST := Lib.hid (HL.out k x hx.out (by have := HM.out; omega))
        generalize sumTo l l' k = A at *
        have i2 : ¬ (k : Int) < (m : Int) := by omega
        have bb : Below wr.heap.size wr (wr.alloc (.cells #[.int .i64 x] 3)) := (Below.refl _ _).alloc (Nat.le_refl _) _
        go_wp2_with (at_builtin; go_must (refine wpList_app (W := w) rfl _ _ rfl rfl (hf.grow bb) (Keeps.step hb bb) rfl (RI.one _ x) ?_ ?_))
        · have := HAL.out; simp; omega
        · intro v7 w7 f7 b7 _
          go_wp2_with fail
          go_roundw
          case rel => exact ⟨k + 1, _, rfl, by omega, by go_num, by rw [HST.out]; exact f7, b7⟩
          case measure => simp [intOf]; omega
    · have i1 : ¬ (k : Int) < (n : Int) := by omega
      by_cases h2 : k < m
      · obtain ⟨b2, o2, y, e9, hcy, hy⟩ := (h'.below hb).at h2
        subst e9
        have HST := Lib.hid (HRR.out k y hy.out (by have := HN.out; omega))
        generalize sumTo l l' k = A at *
        have i2 : (k : Int) < (m : Int) := by omega
        have hyb := HW.out y (List.mem_of_getElem? hy.out)
        have bb : Below wr.heap.size wr (wr.alloc (.cells #[.int .i64 y] 3)) := (Below.refl _ _).alloc (Nat.le_refl _) _
        go_wp2_with (at_builtin; go_must (refine wpList_app (W := w) rfl _ _ rfl rfl (hf.grow bb) (Keeps.step hb bb) rfl (RI.one _ y) ?_ ?_))
        · have := HAL.out; simp; omega
        · intro v7 w7 f7 b7 _
          go_wp2_with fail
          go_roundw
          case rel => exact ⟨k + 1, _, rfl, by omega, by go_num, by rw [HST.out]; exact f7, b7⟩
          case measure => simp [intOf]; omega
      · have hkm : k = max n m := by omega
        have i2 : ¬ (k : Int) < (m : Int) := by omega
        rw [hkm] at hf
        clear hkm
        go_wp2_with fail
        refine (trimPolySpec hf.reads (by rw [HLEN.out]; omega)).mono ?_
        rintro e w5 ⟨r5, rfl, f5, b5⟩
        rw [HR.out] at f5
        go_wp2_with fail
        go_ret
        exact ⟨_, rfl, f5.mono (fun b hb' => ⟨Nat.le_trans hb.size hb'.1, hb'.2⟩), Keeps.step hb b5⟩
end Go.Proofs.Ytfpjojlkodglnaa
