/- Differences and shifts of polynomials by the reference. Condition: at most 2^22 numbers of Go's int. -/
import Derived.Test.YtfpjojlkodglnaaJPoly
import Derived.Test.YtfpjojlkodglnaaJLawInts
namespace Go.Proofs.Ytfpjojlkodglnaa
open Go.RowKit
set_option maxRecDepth 20000

def negL (l : List Int) : List Int := l.map fun x => wrap64 (-x)
def subP (a b : List Int) : List Int := addP a (negL b)
theorem negL_step {l : List Int} {k : Nat} {x : Int} (h : l[k]? = some x) : negL (l.take (k + 1)) = negL (l.take k) ++ [wrap64 (-x)] := by rw [take_step h]; simp [negL]
theorem wrap_in' (x : Int) : -9223372036854775808 ≤ wrap64 x ∧ wrap64 x ≤ 9223372036854775807 := by unfold wrap64; omega
theorem negL_in (l : List Int) : InI (negL l) := fun x hx => by
  obtain ⟨y, _, rfl⟩ := List.mem_map.1 hx
  exact wrap_in' _
theorem trim_mem {l : List Int} {x : Int} (h : x ∈ trim l) : x ∈ l := List.mem_of_mem_take h
theorem addP_in (a b : List Int) : InI (addP a b) := fun x hx => by
  obtain ⟨k, _, rfl⟩ := List.mem_map.1 (trim_mem hx)
  exact wrap_in' _
theorem addP_le (a b : List Int) : (addP a b).length ≤ max a.length b.length := by
  have := trim_le (sumTo a b (max a.length b.length))
  rw [sumTo_len] at this
  exact this

set_option maxHeartbeats 1000000 in
theorem subSpec {S S' : Nat → Prop} {u v : Value} {l l' : List Int} {w : World} (h : RI S w u l) (h' : RI S' w v l') (hi : InI l) (hl : l.length ≤ 8388608) (hl' : l'.length ≤ 8388608) :
    Calls Try.prog 47 #[u, v] w fun e w' => ∃ r, e = .returned r ∧ FI (New w w') w' r (subP l l') ∧ Below w.heap.size w w' := by
  obtain ⟨a', cap', rfl⟩ := h'.form
  have HI := Lib.hid hi
  have HR : Hid (addP l (negL l') = subP l l') := Lib.hid rfl
  have HN0 : Hid (negL (l'.take 0) = []) := Lib.hid (by simp [negL])
  have HNN : Hid (negL (l'.take l'.length) = negL l') := Lib.hid (by simp)
  have HNL : Hid (∀ k, (negL (l'.take k)).length ≤ k) := Lib.hid (fun k => by simp [negL]; omega)
  have HLL : Hid ((negL l').length = l'.length) := Lib.hid (by simp [negL])
  generalize subP l l' = res at *
  clear hi
  generalize hm : l'.length = m at *
  have HM := Lib.hid hm
  clear hm
  go_enter Try.func47, Try.ntmps47
  go_wp2_with fail
  obtain ⟨w1, hw1⟩ : ∃ w1, w1 = w.alloc (.cells #[] 3) := ⟨_, rfl⟩
  obtain ⟨f1, b1⟩ := fresh_of (Below.refl _ w) hw1
  rw [← hw1]
  clear hw1
  rw [← HN0.out] at f1
  go_loopw [5, 6] (fun zz j wr => ∃ (k : Nat) (z : Value), z = zz ∧ k ≤ m ∧ j = .int .i64 k ∧ FI (New w wr) wr z (negL (l'.take k)) ∧ Below w.heap.size w wr) (fun _ j _ => m - (intOf j).toNat)
  case atStart => exact ⟨0, _, rfl, Nat.zero_le _, rfl, f1, b1⟩
  case round =>
    obtain ⟨k, z, rfl, hk, rfl, hf, hb⟩ := hrel
    have hal := HNL.out k
    by_cases h1 : k < m
    · obtain ⟨b, o, x, e8, hcx, hx⟩ := (h'.below hb).at h1
      subst e8
      have i1 : (k : Int) < (m : Int) := by omega
      have HST := Lib.hid (negL_step hx.out)
      generalize negL (l'.take k) = A at *
      have bb : Below wr.heap.size wr (wr.alloc (.cells #[.int .i64 (wrap64 (-x))] 3)) := (Below.refl _ _).alloc (Nat.le_refl _) _
      go_wp2_with (at_builtin; go_must (refine wpList_app (W := w) rfl _ _ rfl rfl (hf.grow bb) (Keeps.step hb bb) rfl (RI.one _ (wrap64 (-x))) ?_ ?_))
      · simp; omega
      · intro v7 w7 f7 b7 _
        go_wp2_with fail
        go_roundw
        case rel => exact ⟨k + 1, _, rfl, by omega, by go_num, by rw [HST.out]; exact f7, b7⟩
        case measure => simp [intOf]; omega
    · have hkm : k = m := by omega
      have i1 : ¬ (k : Int) < (m : Int) := by omega
      rw [hkm, HNN.out] at hf
      clear hkm
      go_wp2_with fail
      refine (addSpec (h.below hb) hf.reads HI.out (negL_in l') hl (by rw [HLL.out]; exact hl')).mono ?_
      rintro e w5 ⟨r5, rfl, f5, b5⟩
      rw [HR.out] at f5
      go_wp2_with fail
      go_ret
      exact ⟨_, rfl, f5.mono (fun b hb' => ⟨Nat.le_trans hb.size hb'.1, hb'.2⟩), Keeps.step hb b5⟩

def shiftP (p : List Int) (k : Nat) : List Int := if p.length = 0 then trim p else trim (List.replicate k 0 ++ p)

set_option maxHeartbeats 1000000 in
theorem shiftSpec {S : Nat → Prop} {v : Value} {l : List Int} {w : World} (h : RI S w v l) (k : Nat) (hk : k ≤ 60) (hl : l.length ≤ 8388608) :
    Calls Try.prog 46 #[v, .int .i64 k] w fun e w' => ∃ r, e = .returned r ∧ FI (New w w') w' r (shiftP l k) ∧ Below w.heap.size w w' := by
  obtain ⟨a, cap, rfl⟩ := h.form
  obtain ⟨i0, hi, hz0, hz1, hz2⟩ := info_parts infoInt
  have HLN := Lib.hid hl
  by_cases h0 : l.length = 0
  · have HR : Hid (trim l = shiftP l k) := Lib.hid (by unfold shiftP; rw [if_pos h0])
    have i1 : ((l.length : Int) == 0) = true := beq_iff_eq.2 (by omega)
    have i2 : ¬ (k : Int) < 0 := by omega
    have i3 : ¬ (60 : Int) < (k : Int) := by omega
    clear h0
    go_enter Try.func46, Try.ntmps46
    go_wp2_with fail
    refine (trimPolySpec h (by have := HLN.out; omega)).mono ?_
    rintro e w2 ⟨r2, rfl, f2, b2⟩
    rw [HR.out] at f2
    go_wp2_with fail
    go_ret
    exact ⟨_, rfl, f2, b2⟩
  · have HR : Hid (trim (List.replicate k 0 ++ l) = shiftP l k) := Lib.hid (by unfold shiftP; rw [if_neg h0])
    have i1 : ((l.length : Int) == 0) = false := beq_eq_false_iff_ne.2 (by omega)
    have i2 : ¬ (k : Int) < 0 := by omega
    have i3 : ¬ (60 : Int) < (k : Int) := by omega
    clear h0
    go_enter Try.func46, Try.ntmps46
    go_wp2_with (at_make; refine wpList_make_full _ rfl _ _ 24 rfl w.heap.size 3 i0 (.int .i64 0) 1 Try.underlying24 hi hz0 hz1 _ _ _ _ k rfl rfl rfl rfl ?hb ?hm ?hs ?_)
    case hb => first | (rw [hz2]; omega) | omega
    case hm => unfold maxLen; omega
    intro w1 hown hgr
    have hb1 : Below w.heap.size w w1 := (Below.refl _ w).grown hgr (Nat.le_refl _) (by simp)
    have hf1 : FI (New w w1) w1 (.slice (some ⟨w.heap.size, 0, none⟩) k k) (List.replicate k 0) := FI.of_row hown (Nat.le_refl _) (by simp) (by simp [toList_madeCells_one, Value.cells])
    clear hgr hi hz0 hz1 hz2 hown
    go_wp2_with (at_builtin; go_must (refine wpList_app (W := w) rfl _ _ rfl rfl hf1 hb1 rfl (h.below hb1) ?_ ?_))
    · have := HLN.out; simp; omega
    · intro v3 w3 f3 b3 _
      go_wp2_with fail
      refine (trimPolySpec f3.reads (by have := HLN.out; simp; omega)).mono ?_
      rintro e w4 ⟨r4, rfl, f4, b4⟩
      rw [HR.out] at f4
      go_wp2_with fail
      go_ret
      exact ⟨_, rfl, f4.mono (fun b hb => ⟨Nat.le_trans b3.size hb.1, hb.2⟩), Keeps.step b3 b4⟩
end Go.Proofs.Ytfpjojlkodglnaa
