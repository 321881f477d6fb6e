/- The product that never shortens, and longest elements, both sides. Condition: words of at most 15 letters. -/
import Derived.Test.YteglcjembimegaaPar
import Derived.Test.YteglcjembimegaaDomOf
import Derived.Test.YteglcjembimegaaCoeff
namespace Go.Proofs.Yteglcjembimegaa
open Go.RowKit
set_option maxRecDepth 20000

def starL (c : List (List Int)) (x : List Int) (i : Int) : List Int := if (normL c (x ++ [i])).length < x.length then x else normL c (x ++ [i])
def starW (c : List (List Int)) : List Int → List Int → List Int
  | x, [] => x
  | x, i :: w => starW c (starL c x i) w
theorem starL_yes {c : List (List Int)} {x : List Int} {i : Int} (h : (normL c (x ++ [i])).length < x.length) : starL c x i = x := by unfold starL; rw [if_pos h]
theorem starL_no {c : List (List Int)} {x : List Int} {i : Int} (h : ¬ (normL c (x ++ [i])).length < x.length) : starL c x i = normL c (x ++ [i]) := by unfold starL; rw [if_neg h]
theorem lets_snoc {n : Nat} {x : List Int} {i : Nat} (hx : Lets n x) (hi : i < n) : Lets n (x ++ [(i : Int)]) := fun y hy => by
  rcases List.mem_append.1 hy with h | h
  · exact hx y h
  · simp at h; omega
theorem starL_ok {c : List (List Int)} (hc : CartanP c) {x : List Int} {i : Nat} (hx : Lets c.length x) (hi : i < c.length) (hl : x.length ≤ 28) : Lets c.length (starL c x i) ∧ (starL c x i).length ≤ x.length + 1 := by
  unfold starL
  split
  · exact ⟨hx, by omega⟩
  · exact ⟨normL_lets hc (lets_snoc hx hi) (by simp; omega), (norm_snoc hc hx hi hl).1⟩
theorem starW_drop {c : List (List Int)} {x w : List Int} {k : Nat} {i : Int} (h : w[k]? = some i) : starW c x (w.drop k) = starW c (starL c x i) (w.drop (k + 1)) := by
  rw [drop_step h]; rfl

set_option maxHeartbeats 1000000 in
theorem cloneInts {S : Nat → Prop} {v : Value} {l : List Int} {w : World} (h : RI S w v l) (hl : l.length ≤ 16777216) :
    Calls Try.prog 62 #[v] w fun e w' => ∃ r, e = .returned r ∧ FI (New w w') w' r l ∧ Below w.heap.size w w' := by
  obtain ⟨a, cap, rfl⟩ := h.form
  cases a with
  | none =>
    have h0 : l = [] := by
      obtain ⟨_, _, hv, _, hc⟩ := h
      simp only [Value.slice.injEq] at hv
      obtain ⟨rfl, _, _⟩ := hv
      rcases hc with h | ⟨b, o, e, _⟩
      · exact h
      · cases e
    subst h0
    show Calls Try.prog 62 #[.slice none 0 cap] w _
    clear h hl
    go_enter Try.func62, Try.ntmps62
    have he : ∀ w : World, (binOp .eql 23 (.slice none 0 cap) (.slice none 0 0)).run Try.prog w = .ok (.bool true) w := fun _ => rfl
    go_wp2_with fail
    go_ret
    exact ⟨_, rfl, FI.empty _ _, Below.refl _ _⟩
  | some ad =>
    obtain ⟨f1, b1⟩ := fresh_of (w := w) (Below.refl _ w) rfl
    have he : ∀ (w : World) (n : Nat), (binOp .eql 23 (.slice (some ad) n cap) (.slice none 0 0)).run Try.prog w = .ok (.bool false) w := fun _ _ => rfl
    go_enter Try.func62, Try.ntmps62
    go_wp2_with (at_builtin; go_must (refine wpList_app (W := w) rfl _ _ rfl rfl f1 b1 rfl (h.below b1) ?_ ?_))
    · simp; omega
    · intro v1 w2 f2 b2 _
      go_wp2_with fail
      go_ret
      exact ⟨_, rfl, f2, b2⟩

set_option maxHeartbeats 1000000 in
theorem starredImpl {S S' : Nat → Prop} {u v : Value} {c : List (List Int)} {x : List Int} {w : World} {i : Nat} {W : World} (h : RII S w u c) (h' : FI (New W w) w v x) (hW : W.heap.size ≤ w.heap.size) (hc : CartanP c) (hx : Lets c.length x) (hi : i < c.length) (hl : x.length ≤ 28) :
    Calls Try.prog 133 #[u, v, .int .i64 i] w fun e w' => ∃ r, e = .returned r ∧ FI (New W w') w' r (starL c x i) ∧ Below w.heap.size w w' := by
  obtain ⟨a', cap', rfl⟩ := h'.form
  have HC := Lib.hid hc
  have HLE := Lib.hid (lets_snoc hx hi)
  have HY : Hid ((normL c (x ++ [(i : Int)])).length < x.length → starL c x i = x) := Lib.hid starL_yes
  have HN : Hid (¬ (normL c (x ++ [(i : Int)])).length < x.length → starL c x i = normL c (x ++ [(i : Int)])) := Lib.hid starL_no
  generalize starL c x i = res at *
  clear hc hx
  go_enter Try.func133, Try.ntmps133
  go_wp2_with fail
  refine (cloneInts h'.reads (by omega)).mono ?_
  rintro e w2 ⟨r2, rfl, f2, b2⟩
  have bb : Below w2.heap.size w2 (w2.alloc (.cells #[.int .i64 i] 3)) := (Below.refl _ _).alloc (Nat.le_refl _) _
  go_wp2_with (at_builtin; go_must (refine wpList_app (W := w) rfl _ _ rfl rfl (f2.grow bb) (Keeps.step b2 bb) rfl (RI.one _ i) ?_ ?_))
  · simp; omega
  · intro v3 w3 f3 b3 _
    go_wp2_with fail
    refine (reducedImpl (h.below b3) f3.reads HC.out HLE.out (by simp; omega)).mono ?_
    rintro e w4 ⟨r4, rfl, f4, b4⟩
    have b04 := Keeps.step b3 b4
    obtain ⟨a4, c4, rfl⟩ := f4.form
    by_cases hlt : (normL c (x ++ [(i : Int)])).length < x.length
    · have e0 := Lib.hid (HY.out hlt)
      have i1 : ((normL c (x ++ [(i : Int)])).length : Int) < (x.length : Int) := by omega
      generalize (normL c (x ++ [(i : Int)])).length = q at *
      go_wp2_with fail
      go_ret
      rw [e0.out]
      exact ⟨_, rfl, h'.grow b04, b04⟩
    · have e0 := Lib.hid (HN.out hlt)
      have i1 : ¬ ((normL c (x ++ [(i : Int)])).length : Int) < (x.length : Int) := by omega
      generalize hq : (normL c (x ++ [(i : Int)])).length = q at *
      go_wp2_with fail
      go_ret
      rw [e0.out]
      exact ⟨_, rfl, f4.mono (fun b hb => ⟨by have := b3.size; have := hb.1; omega, hb.2⟩), b04⟩

set_option maxHeartbeats 1000000 in
theorem starWordImpl {S S' : Nat → Prop} {u v : Value} {c : List (List Int)} {l : List Int} {w : World} (h : RII S w u c) (h' : RI S' w v l) (hl : total c ≤ 16777216) (hl' : l.length ≤ 16777216) :
    Calls Try.prog 91 #[u, v] w fun e w' => ∃ r, e = .returned (.tuple #[r, .bool (isWd c l)]) ∧ FI (New w w') w' r (if isWd c l then starW c [] l else []) ∧ Below w.heap.size w w' := by
  obtain ⟨a', cap', rfl⟩ := h'.form
  have HP : Hid (isWd c l = true → CartanP c ∧ l.length ≤ 15 ∧ Lets c.length l) := Lib.hid (fun h => by obtain ⟨h1, h2, h3⟩ := isWd_parts h; exact ⟨isC_iff.1 h1, h2, h3⟩)
  generalize hm : l.length = m at *
  have HM := Lib.hid hm
  clear hm
  generalize hq : isWd c l = qq at *
  have HQE := Lib.hid hq
  clear hq
  go_enter Try.func91, Try.ntmps91
  go_wp2_with fail
  refine (isWordImpl h h' hl (by rw [HM.out]; exact hl')).mono ?_
  rintro e w1 ⟨rfl, hw1⟩
  have b1 := below_quiet hw1
  clear hw1
  rw [HQE.out]
  cases qq
  · obtain ⟨f1, b2⟩ := fresh_of (w := w1) b1 rfl
    go_wp2_with fail
    go_ret2
    exact ⟨_, rfl, f1, b2⟩
  · have HQ := Lib.hid (HP.out rfl)
    have hm15 := HQ.out.2.1
    have HR0 : Hid (starW c [] (l.drop 0) = starW c [] l) := Lib.hid (by simp)
    have HRN : Hid (∀ x, starW c x (l.drop m) = x) := Lib.hid (fun x => by rw [← HM.out, List.drop_length]; rfl)
    clear HP
    go_wp2_with fail
    obtain ⟨w2, hw2⟩ : ∃ w2, w2 = w1.alloc (.cells #[] 3) := ⟨_, rfl⟩
    obtain ⟨f2, b2⟩ := fresh_of b1 hw2
    rw [← hw2]
    clear hw2
    go_loopw [6, 17] (fun zz j wr => ∃ (k : Nat) (z : Value) (x : List Int), z = zz ∧ k ≤ m ∧ j = .int .i64 k ∧ FI (New w wr) wr z x ∧ x.length ≤ k ∧ Hid (Lets c.length x) ∧ Hid (starW c x (l.drop k) = starW c [] l) ∧ Below w.heap.size w wr) (fun _ j _ => m - (intOf j).toNat)
    case atStart => exact ⟨0, _, [], rfl, Nat.zero_le _, rfl, f2, Nat.le_refl _, Lib.hid (fun y hy => by simp at hy), HR0, b2⟩
    case round =>
      obtain ⟨k, z, x, rfl, hk, rfl, hf, hxl, HL, HK, hb⟩ := hrel
      by_cases hlt : k < m
      · obtain ⟨b, o, y, e9, hcy, hy⟩ := (h'.below hb).at hlt
        subst e9
        obtain ⟨i, rfl, hi⟩ := lets_at HQ.out.2.2 hy.out
        have HK2 : Hid (starW c (starL c x i) (l.drop (k + 1)) = starW c [] l) := Lib.hid ((starW_drop hy.out).symm.trans HK.out)
        have HOK := Lib.hid (starL_ok HQ.out.1 HL.out hi (by omega))
        have i1 : (k : Int) < (m : Int) := by omega
        go_wp2_with fail
        refine (starredImpl (S' := S') (W := w) (h.below hb) hf hb.size HQ.out.1 HL.out hi (by omega)).mono ?_
        rintro e w4 ⟨r4, rfl, f4, b4⟩
        go_wp2_with fail
        go_roundw
        case rel => exact ⟨k + 1, _, _, rfl, by omega, by go_num, f4, by have := HOK.out.2; omega, Lib.hid HOK.out.1, HK2, Keeps.step hb b4⟩
        case measure => simp [intOf]; omega
      · have hkm : k = m := by omega
        have e0 : Hid (x = starW c [] l) := Lib.hid (by have := HK.out; rw [hkm, HRN.out] at this; exact this)
        have i1 : ¬ (k : Int) < (m : Int) := by omega
        clear hkm
        go_wp2_with fail
        go_ret2
        exact ⟨_, rfl, by rw [← e0.out]; exact hf, hb⟩
end Go.Proofs.Yteglcjembimegaa
